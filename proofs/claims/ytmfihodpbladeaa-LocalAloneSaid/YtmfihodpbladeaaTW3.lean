/- The walks, part 3: each call computes its plain function. -/
import Derived.Test.YtmfihodpbladeaaTW2
import Derived.Test.YtmfihodpbladeaaProg
namespace Go.Proofs.YtmfihodpbladeaaT
open Go Go.Proofs Go.Proofs.YtmfihodpbladeaaE
set_option linter.unusedVariables false
set_option linter.unusedSimpArgs false
set_option maxHeartbeats 0
set_option maxRecDepth 4096
/-! ### assizeref05zCheck -/
theorem enter43 (a : Array Value) : Sem.pureRun Try.prog (callFunc 43 a) = some (.enter 43 a) := by kernel_rfl
theorem assizeref05zCheck_calls (a0 : History) (A0z0 : Option Addr) (c0z0 : Nat) (A0z1 : Option Addr) (c0z1 : Nat) (M : Mem) (w : World) (hI : Inv M w []) (hr0z0 : rdS tStr M.blk A0z0 a0.Keys) (hl0z0 : a0.Keys.length ≤ c0z0) (hr0z1 : rdS kTxn M.blk A0z1 a0.Txns) (hl0z1 : a0.Txns.length ≤ c0z1) (r : Int) (H : assizeref05zCheck a0 = some r) :
    Calls Try.prog 43 #[.agg #[vS A0z0 a0.Keys.length c0z0, vS A0z1 a0.Txns.length c0z1]] w fun e w' => e = .returned (vI r) ∧ Inv M w' [] := by
  refine cg Try.func43 ?_
  intro cs
  unfold assizeref05zCheck at H
  refine go_seq (r_in (oe 0 rfl ?_))
  refine e_box 40 _ (.agg #[vS A0z0 a0.Keys.length c0z0, vS A0z1 a0.Txns.length c0z1]) [vS A0z0 a0.Keys.length c0z0, vS A0z1 a0.Txns.length c0z1] rfl (by kernel_rfl) rfl hI ?_
  clear hI
  intro b2 _ hI
  refine bp 1 1 (ro (go_seq ?_))
  refine go_seq_join (o := r) (fun b11 f w => ∃ (j : Nat → Value), f = updL j [(1, vP b2 0), (19, vB b11)] ∧ Inv M w [.blk b2 40 [vS A0z0 a0.Keys.length c0z0, vS A0z1 a0.Txns.length c0z1]]) (fun b11 => assizeref05zCheck.j1 a0 b11) ?_ (fun hJ12 => ?_)
  · clear H hI
    rintro b11 _ _ ⟨_, rfl, hI⟩ H
    replace H := cond_some H
    rcases H with ⟨hc13, H⟩ | ⟨hc13, H⟩
    · refine gt hc13 (go_seq (rp 1 ?_))
      replace H := Option.some.inj H
      subst H
      exact gr Try.func43 ⟨rfl, hI.pn⟩
    · refine ge hc13 (go_skip (go_seq (r_in (bp 0 1 (oe 1 rfl ?_)))))
      refine e_box 106 _ (.agg #[vS none 0 0, vS none 0 0, vS none 0 0, vS none 0 0, vS none 0 0]) [vS none 0 0, vS none 0 0, vS none 0 0, vS none 0 0, vS none 0 0] rfl (by kernel_rfl) rfl hI ?_
      clear hI
      intro b15 _ hI
      refine bp 2 1 (ro (go_seq (go_seq (rp 1 (go_block ?_)))))
      refine go_iter (assizeref05zCheck.s2 a0) (fun (l3136, l3139, l3142, l3145, l3148, x3151) f w => ∃ (j : Nat → Value) (A3137 : Option Addr) (c3138 : Nat) (A3140 : Option Addr) (c3141 : Nat) (A3143 : Option Addr) (c3144 : Nat) (A3146 : Option Addr) (c3147 : Nat) (A3149 : Option Addr) (c3150 : Nat), f = updL j [(1, vP b2 0), (3, vP b15 0), (4, vI x3151)] ∧ Inv M w [.blk b2 40 [vS A0z0 a0.Keys.length c0z0, vS A0z1 a0.Txns.length c0z1], .blk b15 106 [vS A3137 l3136.length c3138, vS A3140 l3139.length c3141, vS A3143 l3142.length c3144, vS A3146 l3145.length c3147, vS A3149 l3148.length c3150], .row tStr 9 A3137 l3136.length c3138 l3136, .row (tInt .i64) 3 A3140 l3139.length c3141 l3139, .row (tSlice 2 (tInt .i64)) 22 A3143 l3142.length c3144 l3142, .row (tInt .i64) 3 A3146 l3145.length c3147 l3145, .row (tInt .i64) 3 A3149 l3148.length c3150 l3148]) H ⟨_, none, 0, none, 0, none, 0, none, 0, none, 0, at_, (((((hI.nilrow tStr 9).nilrow (tInt .i64) 3).nilrow (tSlice 2 (tInt .i64)) 22).nilrow (tInt .i64) 3).nilrow (tInt .i64) 3)⟩ ?_
      clear H hI
      rintro ⟨l3136, l3139, l3142, l3145, l3148, x3151⟩ _ _ o1 H ⟨_, A3137, c3138, A3140, c3141, A3143, c3144, A3146, c3147, A3149, c3150, rfl, hI⟩ hin1 hout1
      refine go_seq (go_seq (rg [.p, .p, .l 0 1, .p, .p] (gA (hI.grp 0 rfl)) ?_))
      replace H := cond_some H
      rcases H with ⟨hc3153, H⟩ | ⟨hc3153, H⟩
      · refine gt hc3153 (go_skip (go_seq (go_block (go_seq (r_in ?_)))))
        replace H := must_some H
        obtain ⟨g3875, H⟩ := H
        obtain ⟨b3879, q3880, rfl, cs3878, hk3877, hg3876⟩ := rdS.open hr0z1 rfl g3875
        obtain ⟨_, _, rfl, rfl, ⟨_, _, rfl, rfl, ⟨_, _, rfl, rfl, ⟨_, _, rfl, rfl, ⟨A3881, c3882, rfl, hl3884, hr3883⟩⟩⟩⟩⟩ := hk3877
        refine bx 0 [.p, .l 0 1, .p, .x, .l 1 0] (gB (hI.grp 0 rfl) (hI.lies hg3876)) _ (bZ g3875) (oe 5 rfl ?_)
        refine e_alloc 61 (.agg #[vI 0, vI 0, vI 0, vI 0, vS none 0 0]) [vI 0, vI 0, vI 0, vI 0, vS none 0 0] rfl (by kernel_rfl) rfl hI ?_
        clear hI
        intro b3885 _ hI
        refine oe 6 rfl ?_
        refine e_store 61 _ _ 7 b3885 61 [vI 0, vI 0, vI 0, vI 0, vS none 0 0] [vI ((idx a0.Txns x3151).Proc), vI ((idx a0.Txns x3151).Status), vI ((idx a0.Txns x3151).From), vI ((idx a0.Txns x3151).To), vS A3881 (((idx a0.Txns x3151).Ops).length) c3882] 0 (.agg #[vI ((idx a0.Txns x3151).Proc), vI ((idx a0.Txns x3151).Status), vI ((idx a0.Txns x3151).From), vI ((idx a0.Txns x3151).To), vS A3881 (((idx a0.Txns x3151).Ops).length) c3882]) rfl (by kernel_rfl) (by kernel_rfl) (by kernel_rfl) (by kernel_rfl) hI rfl (by kernel_rfl) (by kernel_rfl) ?_
        clear hI
        intro _ hI
        refine ro (go_seq ?_)
        refine go_seq_join (o := o1) (fun b3894 f w => ∃ (j : Nat → Value), f = updL j [(1, vP b2 0), (3, vP b15 0), (4, vI x3151), (5, vP b3885 0), (44, vB b3894)] ∧ Inv M w [.blk b2 40 [vS A0z0 a0.Keys.length c0z0, vS (some ⟨b3879, q3880, none⟩) a0.Txns.length c0z1], .blk b15 106 [vS A3137 l3136.length c3138, vS A3140 l3139.length c3141, vS A3143 l3142.length c3144, vS A3146 l3145.length c3147, vS A3149 l3148.length c3150], .row tStr 9 A3137 l3136.length c3138 l3136, .row (tInt .i64) 3 A3140 l3139.length c3141 l3139, .row (tSlice 2 (tInt .i64)) 22 A3143 l3142.length c3144 l3142, .row (tInt .i64) 3 A3146 l3145.length c3147 l3145, .row (tInt .i64) 3 A3149 l3148.length c3150 l3148, .blk b3885 61 [vI ((idx a0.Txns x3151).Proc), vI ((idx a0.Txns x3151).Status), vI ((idx a0.Txns x3151).From), vI ((idx a0.Txns x3151).To), vS A3881 (((idx a0.Txns x3151).Ops).length) c3882]]) (fun b3894 => assizeref05zCheck.j3 a0 l3136 l3139 l3142 l3145 l3148 x3151 b3894) ?_ (fun hJ3895 => ?_)
        · clear H hI
          rintro b3894 _ _ ⟨_, rfl, hI⟩ H
          replace H := cond_some H
          rcases H with ⟨hc3896, H⟩ | ⟨hc3896, H⟩
          · refine gt hc3896 (go_seq (rp 1 ?_))
            replace H := out_some H
            obtain ⟨_, H, he1⟩ := H
            have he := (hout1 _ he1).symm
            subst he
            replace H := Option.some.inj H
            subst H
            exact gr Try.func43 ⟨rfl, hI.pn⟩
          · refine ge hc3896 (go_skip (go_seq (r_in (bg 0 [.p, .l 0 1, .p] (gA (hI.grp 7 rfl)) (oe 3 rfl ?_)))))
            refine e_alloc 92 (.agg #[vI 0, vI 0, vS none 0 0]) [vI 0, vI 0, vS none 0 0] rfl (by kernel_rfl) rfl hI ?_
            clear hI
            intro b3898 _ hI
            refine oe 4 rfl ?_
            refine e_store 92 _ _ 8 b3898 92 [vI 0, vI 0, vS none 0 0] [vI 0, vI ((idx a0.Txns x3151).Status), vS none 0 0] 0 (.agg #[vI 0, vI ((idx a0.Txns x3151).Status), vS none 0 0]) rfl (by kernel_rfl) (by kernel_rfl) (by kernel_rfl) (by kernel_rfl) hI rfl (by kernel_rfl) (by kernel_rfl) ?_
            clear hI
            intro _ hI
            refine ro (go_seq (go_seq (rp 1 (go_block ?_))))
            refine go_iter (assizeref05zCheck.s4 a0 l3136 l3139 l3142 l3145 l3148 x3151) (fun (l4311, x4314) f w => ∃ (j : Nat → Value) (A4312 : Option Addr) (c4313 : Nat), f = updL j [(1, vP b2 0), (3, vP b15 0), (4, vI x3151), (5, vP b3885 0), (6, vP b3898 0), (7, vI x4314)] ∧ Inv M w [.blk b2 40 [vS A0z0 a0.Keys.length c0z0, vS (some ⟨b3879, q3880, none⟩) a0.Txns.length c0z1], .blk b15 106 [vS A3137 l3136.length c3138, vS A3140 l3139.length c3141, vS A3143 l3142.length c3144, vS A3146 l3145.length c3147, vS A3149 l3148.length c3150], .row tStr 9 A3137 l3136.length c3138 l3136, .row (tInt .i64) 3 A3140 l3139.length c3141 l3139, .row (tSlice 2 (tInt .i64)) 22 A3143 l3142.length c3144 l3142, .row (tInt .i64) 3 A3146 l3145.length c3147 l3145, .row (tInt .i64) 3 A3149 l3148.length c3150 l3148, .blk b3885 61 [vI ((idx a0.Txns x3151).Proc), vI ((idx a0.Txns x3151).Status), vI ((idx a0.Txns x3151).From), vI ((idx a0.Txns x3151).To), vS A3881 (((idx a0.Txns x3151).Ops).length) c3882], .blk b3898 92 [vI 0, vI ((idx a0.Txns x3151).Status), vS A4312 l4311.length c4313], .row (kCallL M.blk) 97 A4312 l4311.length c4313 l4311]) H ⟨_, none, 0, at_, (hI.nilrow (kCallL M.blk) 97)⟩ ?_
            clear H hI
            rintro ⟨l4311, x4314⟩ _ _ o2 H ⟨_, A4312, c4313, rfl, hI⟩ hin2 hout2
            refine go_seq (go_seq (rg [.p, .p, .l 0 4, .p, .p] (gA (hI.grp 7 rfl)) ?_))
            replace H := cond_some H
            rcases H with ⟨hc4316, H⟩ | ⟨hc4316, H⟩
            · refine gt hc4316 (go_skip (go_seq ?_))
              refine go_block_join (o := o2) (fun (_ : Unit) f w => ∃ (j : Nat → Value) (A4399 : Option Addr) (c4400 : Nat), f = updL j [(1, vP b2 0), (3, vP b15 0), (4, vI x3151), (5, vP b3885 0), (6, vP b3898 0), (7, vI x4314)] ∧ Inv M w [.blk b2 40 [vS A0z0 a0.Keys.length c0z0, vS (some ⟨b3879, q3880, none⟩) a0.Txns.length c0z1], .blk b15 106 [vS A3137 l3136.length c3138, vS A3140 l3139.length c3141, vS A3143 l3142.length c3144, vS A3146 l3145.length c3147, vS A3149 l3148.length c3150], .row tStr 9 A3137 l3136.length c3138 l3136, .row (tInt .i64) 3 A3140 l3139.length c3141 l3139, .row (tSlice 2 (tInt .i64)) 22 A3143 l3142.length c3144 l3142, .row (tInt .i64) 3 A3146 l3145.length c3147 l3145, .row (tInt .i64) 3 A3149 l3148.length c3150 l3148, .blk b3885 61 [vI ((idx a0.Txns x3151).Proc), vI ((idx a0.Txns x3151).Status), vI ((idx a0.Txns x3151).From), vI ((idx a0.Txns x3151).To), vS A3881 (((idx a0.Txns x3151).Ops).length) c3882], .blk b3898 92 [vI 0, vI ((idx a0.Txns x3151).Status), vS A4399 ((l4311 ++ ([(⟨(idx ((idx a0.Txns x3151).Ops) x4314).Kind, idx a0.Keys ((idx ((idx a0.Txns x3151).Ops) x4314).Key), (idx ((idx a0.Txns x3151).Ops) x4314).Arg, (idx ((idx a0.Txns x3151).Ops) x4314).Got, (idx ((idx a0.Txns x3151).Ops) x4314).Vals⟩ : Call)] : List Call)).length) c4400], .row (kCallL M.blk) 97 A4399 ((l4311 ++ ([(⟨(idx ((idx a0.Txns x3151).Ops) x4314).Kind, idx a0.Keys ((idx ((idx a0.Txns x3151).Ops) x4314).Key), (idx ((idx a0.Txns x3151).Ops) x4314).Arg, (idx ((idx a0.Txns x3151).Ops) x4314).Got, (idx ((idx a0.Txns x3151).Ops) x4314).Vals⟩ : Call)] : List Call)).length) c4400 (l4311 ++ ([(⟨(idx ((idx a0.Txns x3151).Ops) x4314).Kind, idx a0.Keys ((idx ((idx a0.Txns x3151).Ops) x4314).Key), (idx ((idx a0.Txns x3151).Ops) x4314).Arg, (idx ((idx a0.Txns x3151).Ops) x4314).Got, (idx ((idx a0.Txns x3151).Ops) x4314).Vals⟩ : Call)] : List Call))]) (fun (_ : Unit) => assizeref05zCheck.j5 a0 x3151 l4311 x4314) ?_ (fun hJ4401 => ?_)
              · clear H hI
                rintro ⟨⟩ _ _ ⟨_, A4399, c4400, rfl, hI⟩ H
                refine rp 3 ?_
                exact hin2 _ (Option.some.inj H).symm _ _ ⟨_, A4399, c4400, at_, hI⟩
              · refine go_seq (r_in ?_)
                replace H := must_some H
                obtain ⟨g4413, H⟩ := H
                obtain ⟨b4417, q4418, rfl, cs4416, hk4415, hg4414⟩ := rdS.open hr3883 rfl g4413
                obtain ⟨_, _, rfl, rfl, ⟨_, _, rfl, rfl, ⟨_, _, rfl, rfl, ⟨_, _, rfl, rfl, ⟨A4419, c4420, rfl, hl4422, hr4421⟩⟩⟩⟩⟩ := hk4415
                refine bx 0 [.p, .l 0 4, .p, .x, .l 1 0] (gB (hI.grp 7 rfl) (hI.lies hg4414)) _ (bZ g4413) (oe 5 rfl ?_)
                refine e_alloc 63 (.agg #[vI 0, vI 0, vI 0, vB false, vS none 0 0]) [vI 0, vI 0, vI 0, vB false, vS none 0 0] rfl (by kernel_rfl) rfl hI ?_
                clear hI
                intro b4423 _ hI
                refine oe 6 rfl ?_
                refine e_store 63 _ _ 10 b4423 63 [vI 0, vI 0, vI 0, vB false, vS none 0 0] [vI ((idx ((idx a0.Txns x3151).Ops) x4314).Kind), vI ((idx ((idx a0.Txns x3151).Ops) x4314).Key), vI ((idx ((idx a0.Txns x3151).Ops) x4314).Arg), vB ((idx ((idx a0.Txns x3151).Ops) x4314).Got), vS A4419 (((idx ((idx a0.Txns x3151).Ops) x4314).Vals).length) c4420] 0 (.agg #[vI ((idx ((idx a0.Txns x3151).Ops) x4314).Kind), vI ((idx ((idx a0.Txns x3151).Ops) x4314).Key), vI ((idx ((idx a0.Txns x3151).Ops) x4314).Arg), vB ((idx ((idx a0.Txns x3151).Ops) x4314).Got), vS A4419 (((idx ((idx a0.Txns x3151).Ops) x4314).Vals).length) c4420]) rfl (by kernel_rfl) (by kernel_rfl) (by kernel_rfl) (by kernel_rfl) hI rfl (by kernel_rfl) (by kernel_rfl) ?_
                clear hI
                intro _ hI
                refine ro (go_seq ?_)
                refine go_seq_join (o := o2) (fun b4428 f w => ∃ (j : Nat → Value), f = updL j [(1, vP b2 0), (3, vP b15 0), (4, vI x3151), (5, vP b3885 0), (6, vP b3898 0), (7, vI x4314), (8, vP b4423 0), (70, vB b4428)] ∧ Inv M w [.blk b2 40 [vS A0z0 a0.Keys.length c0z0, vS (some ⟨b3879, q3880, none⟩) a0.Txns.length c0z1], .blk b15 106 [vS A3137 l3136.length c3138, vS A3140 l3139.length c3141, vS A3143 l3142.length c3144, vS A3146 l3145.length c3147, vS A3149 l3148.length c3150], .row tStr 9 A3137 l3136.length c3138 l3136, .row (tInt .i64) 3 A3140 l3139.length c3141 l3139, .row (tSlice 2 (tInt .i64)) 22 A3143 l3142.length c3144 l3142, .row (tInt .i64) 3 A3146 l3145.length c3147 l3145, .row (tInt .i64) 3 A3149 l3148.length c3150 l3148, .blk b3885 61 [vI ((idx a0.Txns x3151).Proc), vI ((idx a0.Txns x3151).Status), vI ((idx a0.Txns x3151).From), vI ((idx a0.Txns x3151).To), vS (some ⟨b4417, q4418, none⟩) (((idx a0.Txns x3151).Ops).length) c3882], .blk b3898 92 [vI 0, vI ((idx a0.Txns x3151).Status), vS A4312 l4311.length c4313], .row (kCallL M.blk) 97 A4312 l4311.length c4313 l4311, .blk b4423 63 [vI ((idx ((idx a0.Txns x3151).Ops) x4314).Kind), vI ((idx ((idx a0.Txns x3151).Ops) x4314).Key), vI ((idx ((idx a0.Txns x3151).Ops) x4314).Arg), vB ((idx ((idx a0.Txns x3151).Ops) x4314).Got), vS A4419 (((idx ((idx a0.Txns x3151).Ops) x4314).Vals).length) c4420]]) (fun b4428 => assizeref05zCheck.j6 a0 x3151 l4311 x4314 b4428) ?_ (fun hJ4429 => ?_)
                · clear H hI
                  rintro b4428 _ _ ⟨_, rfl, hI⟩ H
                  replace H := cond_some H
                  rcases H with ⟨hc4430, H⟩ | ⟨hc4430, H⟩
                  · refine gt hc4430 (go_seq (rp 1 ?_))
                    replace H := out_some H
                    obtain ⟨_, H, he2⟩ := H
                    have he := (hout2 _ he2).symm
                    subst he
                    replace H := out_some H
                    obtain ⟨_, H, he1⟩ := H
                    have he := (hout1 _ he1).symm
                    subst he
                    replace H := Option.some.inj H
                    subst H
                    exact gr Try.func43 ⟨rfl, hI.pn⟩
                  · refine ge hc4430 (go_skip ?_)
                    replace H := must_some H
                    obtain ⟨g4431, H⟩ := H
                    replace H := must_some H
                    obtain ⟨g4436, H⟩ := H
                    refine go_held (fun w => Inv M w [.blk b2 40 [vS A0z0 a0.Keys.length c0z0, vS (some ⟨b3879, q3880, none⟩) a0.Txns.length c0z1], .blk b15 106 [vS A3137 l3136.length c3138, vS A3140 l3139.length c3141, vS A3143 l3142.length c3144, vS A3146 l3145.length c3147, vS A3149 l3148.length c3150], .row tStr 9 A3137 l3136.length c3138 l3136, .row (tInt .i64) 3 A3140 l3139.length c3141 l3139, .row (tSlice 2 (tInt .i64)) 22 A3143 l3142.length c3144 l3142, .row (tInt .i64) 3 A3146 l3145.length c3147 l3145, .row (tInt .i64) 3 A3149 l3148.length c3150 l3148, .blk b3885 61 [vI ((idx a0.Txns x3151).Proc), vI ((idx a0.Txns x3151).Status), vI ((idx a0.Txns x3151).From), vI ((idx a0.Txns x3151).To), vS (some ⟨b4417, q4418, none⟩) (((idx a0.Txns x3151).Ops).length) c3882], .blk b4423 63 [vI ((idx ((idx a0.Txns x3151).Ops) x4314).Kind), vI ((idx ((idx a0.Txns x3151).Ops) x4314).Key), vI ((idx ((idx a0.Txns x3151).Ops) x4314).Arg), vB ((idx ((idx a0.Txns x3151).Ops) x4314).Got), vS A4419 (((idx ((idx a0.Txns x3151).Ops) x4314).Vals).length) c4420]]) (by kernel_rfl) ?_
                    replace hI := hI.drew'
                    obtain ⟨b4439, q4440, rfl, _⟩ := rdS.fopen hr0z0 rfl g4431
                    refine hx (n := 5) [(0, .p), (2, .p), (3, .l 0 0), (4, .p), (5, .l 1 0), (6, .p), (7, .l 0 1), (8, .x), (9, .l 2 0), (10, .p), (11, .l 0 2), (12, .p), (13, .l 0 3), (14, .p), (15, .l 0 4), (16, .p)] (fun _ hS => (gC (hS.grp 8 rfl) (hS.grp 0 rfl) (hS.lies (rdS.flook hr0z0 rfl g4431)))) (hI.pk [0, 1, 2, 3, 4, 5, 6, 7, 10]) _ (bZ g4431) ?_
                    refine held_each (n := 4) [1, 17] (by simp) (by kernel_rfl) ⟨⟨_, rfl, by kernel_rfl, ?_⟩, ⟨_, rfl, by kernel_rfl, ?_⟩, trivial⟩
                    · refine (e_read (ops := #[]) [(b3898, 0, [vI 0, vI ((idx a0.Txns x3151).Status), vS A4312 l4311.length c4313])] (.l 0 2) (vS A4312 l4311.length c4313) [] ⟨(hI.grp 8 rfl), trivial⟩ trivial (by kernel_rfl) (by kernel_rfl) (by kernel_rfl) ⟨(hI.pk [0, 1, 2, 3, 4, 5, 6, 7, 10]), ?_⟩)
                      refine ho (n := 3) 17 rfl (e_partsS 90 97 1 _ _ _ #[vI ((idx ((idx a0.Txns x3151).Ops) x4314).Kind), .string (idx a0.Keys ((idx ((idx a0.Txns x3151).Ops) x4314).Key)), vI ((idx ((idx a0.Txns x3151).Ops) x4314).Arg), vB ((idx ((idx a0.Txns x3151).Ops) x4314).Got), vS A4419 (((idx ((idx a0.Txns x3151).Ops) x4314).Vals).length) c4420] [vI ((idx ((idx a0.Txns x3151).Ops) x4314).Kind), .string (idx a0.Keys ((idx ((idx a0.Txns x3151).Ops) x4314).Key)), vI ((idx ((idx a0.Txns x3151).Ops) x4314).Arg), vB ((idx ((idx a0.Txns x3151).Ops) x4314).Got), vS A4419 (((idx ((idx a0.Txns x3151).Ops) x4314).Vals).length) c4420] rfl rfl rfl rfl (by kernel_rfl) (by kernel_rfl) (by kernel_rfl) (by kernel_rfl) hI ?_)
                      clear hI
                      intro b4445 _ hs4446 hI
                      refine ⟨(hI.pk [0, 1, 2, 3, 4, 5, 6, 7, 10]), ?_⟩
                      refine ho (n := 2) 18 rfl (e_append (kCallL M.blk) 90 0 97 _ _ _ _ A4312 l4311.length c4313 l4311 ([(⟨(idx ((idx a0.Txns x3151).Ops) x4314).Kind, idx a0.Keys ((idx ((idx a0.Txns x3151).Ops) x4314).Key), (idx ((idx a0.Txns x3151).Ops) x4314).Arg, (idx ((idx a0.Txns x3151).Ops) x4314).Got, (idx ((idx a0.Txns x3151).Ops) x4314).Vals⟩ : Call)] : List Call) b4445 0 1 1 [vI ((idx ((idx a0.Txns x3151).Ops) x4314).Kind), .string (idx a0.Keys ((idx ((idx a0.Txns x3151).Ops) x4314).Key)), vI ((idx ((idx a0.Txns x3151).Ops) x4314).Arg), vB ((idx ((idx a0.Txns x3151).Ops) x4314).Got), vS A4419 (((idx ((idx a0.Txns x3151).Ops) x4314).Vals).length) c4420] 9 [] [0, 1, 2, 3, 4, 5, 6, 7, 8, 10, 11] [] [.blk b2 40 [vS (some ⟨b4439, q4440, none⟩) a0.Keys.length c0z0, vS (some ⟨b3879, q3880, none⟩) a0.Txns.length c0z1], .blk b15 106 [vS A3137 l3136.length c3138, vS A3140 l3139.length c3141, vS A3143 l3142.length c3144, vS A3146 l3145.length c3147, vS A3149 l3148.length c3150], .row tStr 9 A3137 l3136.length c3138 l3136, .row (tInt .i64) 3 A3140 l3139.length c3141 l3139, .row (tSlice 2 (tInt .i64)) 22 A3143 l3142.length c3144 l3142, .row (tInt .i64) 3 A3146 l3145.length c3147 l3145, .row (tInt .i64) 3 A3149 l3148.length c3150 l3148, .blk b3885 61 [vI ((idx a0.Txns x3151).Proc), vI ((idx a0.Txns x3151).Status), vI ((idx a0.Txns x3151).From), vI ((idx a0.Txns x3151).To), vS (some ⟨b4417, q4418, none⟩) (((idx a0.Txns x3151).Ops).length) c3882], .blk b3898 92 [vI 0, vI ((idx a0.Txns x3151).Status), vS A4312 l4311.length c4313], .blk b4423 63 [vI ((idx ((idx a0.Txns x3151).Ops) x4314).Kind), vI ((idx ((idx a0.Txns x3151).Ops) x4314).Key), vI ((idx ((idx a0.Txns x3151).Ops) x4314).Arg), vB ((idx ((idx a0.Txns x3151).Ops) x4314).Got), vS A4419 (((idx ((idx a0.Txns x3151).Ops) x4314).Vals).length) c4420], .blk b4445 97 [vI ((idx ((idx a0.Txns x3151).Ops) x4314).Kind), .string (idx a0.Keys ((idx ((idx a0.Txns x3151).Ops) x4314).Key)), vI ((idx ((idx a0.Txns x3151).Ops) x4314).Arg), vB ((idx ((idx a0.Txns x3151).Ops) x4314).Got), vS A4419 (((idx ((idx a0.Txns x3151).Ops) x4314).Vals).length) c4420]] rfl (by kernel_rfl) (by kernel_rfl) rfl rfl rfl rfl rfl (by kernel_rfl) hI (by decide) rfl rfl rfl (hI.grp 11 rfl) g4436 (mks_cons (mk_iso (g := fun g : Call => (g.Kind, g.Key, g.Arg, g.Got, g.Vals)) (x := (⟨(idx ((idx a0.Txns x3151).Ops) x4314).Kind, idx a0.Keys ((idx ((idx a0.Txns x3151).Ops) x4314).Key), (idx ((idx a0.Txns x3151).Ops) x4314).Arg, (idx ((idx a0.Txns x3151).Ops) x4314).Got, (idx ((idx a0.Txns x3151).Ops) x4314).Vals⟩ : Call)) (mk_pair (mk_flat (k := (tInt .i64)) ((idx ((idx a0.Txns x3151).Ops) x4314).Kind) [vI ((idx ((idx a0.Txns x3151).Ops) x4314).Kind)] rfl) (mk_pair (mk_flat (k := tStr) (idx a0.Keys ((idx ((idx a0.Txns x3151).Ops) x4314).Key)) [.string (idx a0.Keys ((idx ((idx a0.Txns x3151).Ops) x4314).Key))] rfl) (mk_pair (mk_flat (k := (tInt .i64)) ((idx ((idx a0.Txns x3151).Ops) x4314).Arg) [vI ((idx ((idx a0.Txns x3151).Ops) x4314).Arg)] rfl) (mk_pair (mk_flat (k := tBool) ((idx ((idx a0.Txns x3151).Ops) x4314).Got) [vB ((idx ((idx a0.Txns x3151).Ops) x4314).Got)] rfl) (mk_lent hr4421 rfl hl4422)))))) mks_nil) ?_)
                      clear hI
                      intro A4449 c4450 _ hI
                      replace hI := hI.pick (L' := [.row (kCallL M.blk) 97 A4449 ((l4311 ++ ([(⟨(idx ((idx a0.Txns x3151).Ops) x4314).Kind, idx a0.Keys ((idx ((idx a0.Txns x3151).Ops) x4314).Key), (idx ((idx a0.Txns x3151).Ops) x4314).Arg, (idx ((idx a0.Txns x3151).Ops) x4314).Got, (idx ((idx a0.Txns x3151).Ops) x4314).Vals⟩ : Call)] : List Call)).length) c4450 (l4311 ++ ([(⟨(idx ((idx a0.Txns x3151).Ops) x4314).Kind, idx a0.Keys ((idx ((idx a0.Txns x3151).Ops) x4314).Key), (idx ((idx a0.Txns x3151).Ops) x4314).Arg, (idx ((idx a0.Txns x3151).Ops) x4314).Got, (idx ((idx a0.Txns x3151).Ops) x4314).Vals⟩ : Call)] : List Call)), .blk b2 40 [vS (some ⟨b4439, q4440, none⟩) a0.Keys.length c0z0, vS (some ⟨b3879, q3880, none⟩) a0.Txns.length c0z1], .blk b15 106 [vS A3137 l3136.length c3138, vS A3140 l3139.length c3141, vS A3143 l3142.length c3144, vS A3146 l3145.length c3147, vS A3149 l3148.length c3150], .row tStr 9 A3137 l3136.length c3138 l3136, .row (tInt .i64) 3 A3140 l3139.length c3141 l3139, .row (tSlice 2 (tInt .i64)) 22 A3143 l3142.length c3144 l3142, .row (tInt .i64) 3 A3146 l3145.length c3147 l3145, .row (tInt .i64) 3 A3149 l3148.length c3150 l3148, .blk b3885 61 [vI ((idx a0.Txns x3151).Proc), vI ((idx a0.Txns x3151).Status), vI ((idx a0.Txns x3151).From), vI ((idx a0.Txns x3151).To), vS (some ⟨b4417, q4418, none⟩) (((idx a0.Txns x3151).Ops).length) c3882], .blk b3898 92 [vI 0, vI ((idx a0.Txns x3151).Status), vS A4312 l4311.length c4313], .blk b4423 63 [vI ((idx ((idx a0.Txns x3151).Ops) x4314).Kind), vI ((idx ((idx a0.Txns x3151).Ops) x4314).Key), vI ((idx ((idx a0.Txns x3151).Ops) x4314).Arg), vB ((idx ((idx a0.Txns x3151).Ops) x4314).Got), vS A4419 (((idx ((idx a0.Txns x3151).Ops) x4314).Vals).length) c4420]]) [0, 1, 2, 3, 4, 5, 6, 7, 8, 9, 10] (by decide) rfl
                      refine ⟨(hI.pk [1, 2, 3, 4, 5, 6, 7, 8, 10]), ?_⟩
                      refine hg (n := 1) [(19, .p)] (fun _ hS => gO) (hI.pk [1, 2, 3, 4, 5, 6, 7, 8, 10]) ?_
                      refine ho (n := 0) 20 rfl (e_store 90 _ _ 9 b3898 92 [vI 0, vI ((idx a0.Txns x3151).Status), vS A4312 l4311.length c4313] [vI 0, vI ((idx a0.Txns x3151).Status), vS A4449 ((l4311 ++ ([(⟨(idx ((idx a0.Txns x3151).Ops) x4314).Kind, idx a0.Keys ((idx ((idx a0.Txns x3151).Ops) x4314).Key), (idx ((idx a0.Txns x3151).Ops) x4314).Arg, (idx ((idx a0.Txns x3151).Ops) x4314).Got, (idx ((idx a0.Txns x3151).Ops) x4314).Vals⟩ : Call)] : List Call)).length) c4450] 2 (vS A4449 ((l4311 ++ ([(⟨(idx ((idx a0.Txns x3151).Ops) x4314).Kind, idx a0.Keys ((idx ((idx a0.Txns x3151).Ops) x4314).Key), (idx ((idx a0.Txns x3151).Ops) x4314).Arg, (idx ((idx a0.Txns x3151).Ops) x4314).Got, (idx ((idx a0.Txns x3151).Ops) x4314).Vals⟩ : Call)] : List Call)).length) c4450) rfl (by kernel_rfl) (by kernel_rfl) (by kernel_rfl) (by kernel_rfl) hI rfl (by kernel_rfl) (by kernel_rfl) ?_)
                      clear hI
                      intro _ hI
                      refine ⟨(hI.pk [1, 2, 3, 4, 5, 6, 7, 8, 10]), ?_⟩
                      refine hd (go_inBlock ?_)
                      exact hJ4401 () _ _ ⟨_, A4449, c4450, at_, hI.pick [1, 2, 3, 4, 5, 6, 7, 8, 9, 0] (by decide) rfl⟩ H
                    · refine (e_partsS 90 97 1 _ _ _ #[vI ((idx ((idx a0.Txns x3151).Ops) x4314).Kind), .string (idx a0.Keys ((idx ((idx a0.Txns x3151).Ops) x4314).Key)), vI ((idx ((idx a0.Txns x3151).Ops) x4314).Arg), vB ((idx ((idx a0.Txns x3151).Ops) x4314).Got), vS A4419 (((idx ((idx a0.Txns x3151).Ops) x4314).Vals).length) c4420] [vI ((idx ((idx a0.Txns x3151).Ops) x4314).Kind), .string (idx a0.Keys ((idx ((idx a0.Txns x3151).Ops) x4314).Key)), vI ((idx ((idx a0.Txns x3151).Ops) x4314).Arg), vB ((idx ((idx a0.Txns x3151).Ops) x4314).Got), vS A4419 (((idx ((idx a0.Txns x3151).Ops) x4314).Vals).length) c4420] rfl rfl rfl rfl (by kernel_rfl) (by kernel_rfl) (by kernel_rfl) (by kernel_rfl) hI ?_)
                      clear hI
                      intro b4451 _ hs4452 hI
                      refine ⟨(hI.pk [0, 1, 2, 3, 4, 5, 6, 7, 10]), ?_⟩
                      refine ho (n := 3) 1 rfl (e_read (ops := #[]) [(b3898, 0, [vI 0, vI ((idx a0.Txns x3151).Status), vS A4312 l4311.length c4313])] (.l 0 2) (vS A4312 l4311.length c4313) [] ⟨(hI.grp 8 rfl), trivial⟩ trivial (by kernel_rfl) (by kernel_rfl) (by kernel_rfl) ⟨(hI.pk [0, 1, 2, 3, 4, 5, 6, 7, 10]), ?_⟩)
                      refine ho (n := 2) 18 rfl (e_append (kCallL M.blk) 90 0 97 _ _ _ _ A4312 l4311.length c4313 l4311 ([(⟨(idx ((idx a0.Txns x3151).Ops) x4314).Kind, idx a0.Keys ((idx ((idx a0.Txns x3151).Ops) x4314).Key), (idx ((idx a0.Txns x3151).Ops) x4314).Arg, (idx ((idx a0.Txns x3151).Ops) x4314).Got, (idx ((idx a0.Txns x3151).Ops) x4314).Vals⟩ : Call)] : List Call) b4451 0 1 1 [vI ((idx ((idx a0.Txns x3151).Ops) x4314).Kind), .string (idx a0.Keys ((idx ((idx a0.Txns x3151).Ops) x4314).Key)), vI ((idx ((idx a0.Txns x3151).Ops) x4314).Arg), vB ((idx ((idx a0.Txns x3151).Ops) x4314).Got), vS A4419 (((idx ((idx a0.Txns x3151).Ops) x4314).Vals).length) c4420] 9 [] [0, 1, 2, 3, 4, 5, 6, 7, 8, 10, 11] [] [.blk b2 40 [vS (some ⟨b4439, q4440, none⟩) a0.Keys.length c0z0, vS (some ⟨b3879, q3880, none⟩) a0.Txns.length c0z1], .blk b15 106 [vS A3137 l3136.length c3138, vS A3140 l3139.length c3141, vS A3143 l3142.length c3144, vS A3146 l3145.length c3147, vS A3149 l3148.length c3150], .row tStr 9 A3137 l3136.length c3138 l3136, .row (tInt .i64) 3 A3140 l3139.length c3141 l3139, .row (tSlice 2 (tInt .i64)) 22 A3143 l3142.length c3144 l3142, .row (tInt .i64) 3 A3146 l3145.length c3147 l3145, .row (tInt .i64) 3 A3149 l3148.length c3150 l3148, .blk b3885 61 [vI ((idx a0.Txns x3151).Proc), vI ((idx a0.Txns x3151).Status), vI ((idx a0.Txns x3151).From), vI ((idx a0.Txns x3151).To), vS (some ⟨b4417, q4418, none⟩) (((idx a0.Txns x3151).Ops).length) c3882], .blk b3898 92 [vI 0, vI ((idx a0.Txns x3151).Status), vS A4312 l4311.length c4313], .blk b4423 63 [vI ((idx ((idx a0.Txns x3151).Ops) x4314).Kind), vI ((idx ((idx a0.Txns x3151).Ops) x4314).Key), vI ((idx ((idx a0.Txns x3151).Ops) x4314).Arg), vB ((idx ((idx a0.Txns x3151).Ops) x4314).Got), vS A4419 (((idx ((idx a0.Txns x3151).Ops) x4314).Vals).length) c4420], .blk b4451 97 [vI ((idx ((idx a0.Txns x3151).Ops) x4314).Kind), .string (idx a0.Keys ((idx ((idx a0.Txns x3151).Ops) x4314).Key)), vI ((idx ((idx a0.Txns x3151).Ops) x4314).Arg), vB ((idx ((idx a0.Txns x3151).Ops) x4314).Got), vS A4419 (((idx ((idx a0.Txns x3151).Ops) x4314).Vals).length) c4420]] rfl (by kernel_rfl) (by kernel_rfl) rfl rfl rfl rfl rfl (by kernel_rfl) hI (by decide) rfl rfl rfl (hI.grp 11 rfl) g4436 (mks_cons (mk_iso (g := fun g : Call => (g.Kind, g.Key, g.Arg, g.Got, g.Vals)) (x := (⟨(idx ((idx a0.Txns x3151).Ops) x4314).Kind, idx a0.Keys ((idx ((idx a0.Txns x3151).Ops) x4314).Key), (idx ((idx a0.Txns x3151).Ops) x4314).Arg, (idx ((idx a0.Txns x3151).Ops) x4314).Got, (idx ((idx a0.Txns x3151).Ops) x4314).Vals⟩ : Call)) (mk_pair (mk_flat (k := (tInt .i64)) ((idx ((idx a0.Txns x3151).Ops) x4314).Kind) [vI ((idx ((idx a0.Txns x3151).Ops) x4314).Kind)] rfl) (mk_pair (mk_flat (k := tStr) (idx a0.Keys ((idx ((idx a0.Txns x3151).Ops) x4314).Key)) [.string (idx a0.Keys ((idx ((idx a0.Txns x3151).Ops) x4314).Key))] rfl) (mk_pair (mk_flat (k := (tInt .i64)) ((idx ((idx a0.Txns x3151).Ops) x4314).Arg) [vI ((idx ((idx a0.Txns x3151).Ops) x4314).Arg)] rfl) (mk_pair (mk_flat (k := tBool) ((idx ((idx a0.Txns x3151).Ops) x4314).Got) [vB ((idx ((idx a0.Txns x3151).Ops) x4314).Got)] rfl) (mk_lent hr4421 rfl hl4422)))))) mks_nil) ?_)
                      clear hI
                      intro A4455 c4456 _ hI
                      replace hI := hI.pick (L' := [.row (kCallL M.blk) 97 A4455 ((l4311 ++ ([(⟨(idx ((idx a0.Txns x3151).Ops) x4314).Kind, idx a0.Keys ((idx ((idx a0.Txns x3151).Ops) x4314).Key), (idx ((idx a0.Txns x3151).Ops) x4314).Arg, (idx ((idx a0.Txns x3151).Ops) x4314).Got, (idx ((idx a0.Txns x3151).Ops) x4314).Vals⟩ : Call)] : List Call)).length) c4456 (l4311 ++ ([(⟨(idx ((idx a0.Txns x3151).Ops) x4314).Kind, idx a0.Keys ((idx ((idx a0.Txns x3151).Ops) x4314).Key), (idx ((idx a0.Txns x3151).Ops) x4314).Arg, (idx ((idx a0.Txns x3151).Ops) x4314).Got, (idx ((idx a0.Txns x3151).Ops) x4314).Vals⟩ : Call)] : List Call)), .blk b2 40 [vS (some ⟨b4439, q4440, none⟩) a0.Keys.length c0z0, vS (some ⟨b3879, q3880, none⟩) a0.Txns.length c0z1], .blk b15 106 [vS A3137 l3136.length c3138, vS A3140 l3139.length c3141, vS A3143 l3142.length c3144, vS A3146 l3145.length c3147, vS A3149 l3148.length c3150], .row tStr 9 A3137 l3136.length c3138 l3136, .row (tInt .i64) 3 A3140 l3139.length c3141 l3139, .row (tSlice 2 (tInt .i64)) 22 A3143 l3142.length c3144 l3142, .row (tInt .i64) 3 A3146 l3145.length c3147 l3145, .row (tInt .i64) 3 A3149 l3148.length c3150 l3148, .blk b3885 61 [vI ((idx a0.Txns x3151).Proc), vI ((idx a0.Txns x3151).Status), vI ((idx a0.Txns x3151).From), vI ((idx a0.Txns x3151).To), vS (some ⟨b4417, q4418, none⟩) (((idx a0.Txns x3151).Ops).length) c3882], .blk b3898 92 [vI 0, vI ((idx a0.Txns x3151).Status), vS A4312 l4311.length c4313], .blk b4423 63 [vI ((idx ((idx a0.Txns x3151).Ops) x4314).Kind), vI ((idx ((idx a0.Txns x3151).Ops) x4314).Key), vI ((idx ((idx a0.Txns x3151).Ops) x4314).Arg), vB ((idx ((idx a0.Txns x3151).Ops) x4314).Got), vS A4419 (((idx ((idx a0.Txns x3151).Ops) x4314).Vals).length) c4420]]) [0, 1, 2, 3, 4, 5, 6, 7, 8, 9, 10] (by decide) rfl
                      refine ⟨(hI.pk [1, 2, 3, 4, 5, 6, 7, 8, 10]), ?_⟩
                      refine hg (n := 1) [(19, .p)] (fun _ hS => gO) (hI.pk [1, 2, 3, 4, 5, 6, 7, 8, 10]) ?_
                      refine ho (n := 0) 20 rfl (e_store 90 _ _ 9 b3898 92 [vI 0, vI ((idx a0.Txns x3151).Status), vS A4312 l4311.length c4313] [vI 0, vI ((idx a0.Txns x3151).Status), vS A4455 ((l4311 ++ ([(⟨(idx ((idx a0.Txns x3151).Ops) x4314).Kind, idx a0.Keys ((idx ((idx a0.Txns x3151).Ops) x4314).Key), (idx ((idx a0.Txns x3151).Ops) x4314).Arg, (idx ((idx a0.Txns x3151).Ops) x4314).Got, (idx ((idx a0.Txns x3151).Ops) x4314).Vals⟩ : Call)] : List Call)).length) c4456] 2 (vS A4455 ((l4311 ++ ([(⟨(idx ((idx a0.Txns x3151).Ops) x4314).Kind, idx a0.Keys ((idx ((idx a0.Txns x3151).Ops) x4314).Key), (idx ((idx a0.Txns x3151).Ops) x4314).Arg, (idx ((idx a0.Txns x3151).Ops) x4314).Got, (idx ((idx a0.Txns x3151).Ops) x4314).Vals⟩ : Call)] : List Call)).length) c4456) rfl (by kernel_rfl) (by kernel_rfl) (by kernel_rfl) (by kernel_rfl) hI rfl (by kernel_rfl) (by kernel_rfl) ?_)
                      clear hI
                      intro _ hI
                      refine ⟨(hI.pk [1, 2, 3, 4, 5, 6, 7, 8, 10]), ?_⟩
                      refine hd (go_inBlock ?_)
                      exact hJ4401 () _ _ ⟨_, A4455, c4456, at_, hI.pick [1, 2, 3, 4, 5, 6, 7, 8, 9, 0] (by decide) rfl⟩ H
                · refine r_in ?_
                  replace H := cond_some H
                  rcases H with ⟨hc4457, H⟩ | ⟨hc4457, H⟩
                  · refine bx 0 [.p, .l 0 1, .p, .c true, .p, .p, .p, .p, .p, .p, .p] (gA (hI.grp 10 rfl)) _ (bZ (bndEq hc4457)) (ro ?_)
                    exact hJ4429 true _ _ ⟨_, at_, hI⟩ H
                  · refine bx 0 [.p, .l 0 1, .p, .c false, .p, .l 0 1, .p, .l 1 0, .p, .p, .p] (gB (hI.grp 10 rfl) (hI.grp 0 rfl)) _ (bZ (bndEq hc4457)) (ro ?_)
                    exact hJ4429 (decide ((idx ((idx a0.Txns x3151).Ops) x4314).Key ≥ (a0.Keys.length : Int))) _ _ ⟨_, at_, hI⟩ H
            · refine ge hc4316 ?_
              refine go_exit rfl ?_
              refine go_seq (go_seq (r_in (bg 0 [.l 0 0] (gA (hI.grp 8 rfl)) (oe 1 rfl ?_))))
              refine e_partsS 109 92 1 _ _ _ #[vI 0, vI ((idx a0.Txns x3151).Status), vS A4312 l4311.length c4313] [vI 0, vI ((idx a0.Txns x3151).Status), vS A4312 l4311.length c4313] rfl rfl rfl rfl (by kernel_rfl) (by kernel_rfl) (by kernel_rfl) (by kernel_rfl) hI ?_
              clear hI
              intro b4467 _ hs4468 hI
              replace H := bind_some H
              obtain ⟨y4469, hy4470, H⟩ := H
              refine oe 2 rfl ?_
              refine ec (enter55 _) (assizeref03zCheck_calls (some ⟨b4467, 0, none⟩) 1 ([(⟨0, (idx a0.Txns x3151).Status, l4311⟩ : Event)] : List Event) (memOf _) _ (Inv.start _) (rd_parts (k := kEvent) (hI.grp 10 rfl) ⟨[vI 0, vI ((idx a0.Txns x3151).Status), vS A4312 l4311.length c4313], [], rfl, (rd_iso (g := fun g : Event => (g.Proc, g.Kind, g.Calls)) (x := (⟨0, (idx a0.Txns x3151).Status, l4311⟩ : Event)) (rd_pair (c1 := [vI 0]) (c2 := [vI ((idx a0.Txns x3151).Status), vS A4312 l4311.length c4313]) rfl (rd_flat (k := (tInt .i64)) 0 [vI 0] rfl) (rd_pair (c1 := [vI ((idx a0.Txns x3151).Status)]) (c2 := [vS A4312 l4311.length c4313]) rfl (rd_flat (k := (tInt .i64)) ((idx a0.Txns x3151).Status) [vI ((idx a0.Txns x3151).Status)] rfl) (rd_slice (Lends.rdS (lendsCall _) hI.fix (hI.row 9 rfl)) (hI.rowlen 9 rfl) (hI.rowle 9 rfl))))), rfl⟩) (Nat.le_refl _) _ hy4470) ?_
              rintro _ _ ⟨rfl, hI'⟩
              replace hI := hI.call0 hI'
              clear hI'
              refine ⟨_, rfl, ?_⟩
              refine bp 3 1 (ro ?_)
              replace H := cond_some H
              rcases H with ⟨hc4471, H⟩ | ⟨hc4471, H⟩
              · refine gt hc4471 (go_seq (rp 1 ?_))
                replace H := out_some H
                obtain ⟨_, H, he2⟩ := H
                have he := (hout2 _ he2).symm
                subst he
                replace H := out_some H
                obtain ⟨_, H, he1⟩ := H
                have he := (hout1 _ he1).symm
                subst he
                replace H := Option.some.inj H
                subst H
                exact gr Try.func43 ⟨rfl, hI.pn⟩
              · refine ge hc4471 (go_skip (go_seq (rp 1 (go_block ?_))))
                refine go_iter (assizeref05zCheck.s7 x3151 l4311) (fun (l4788, l4791, l4794, l4797, l4800, x4803) f w => ∃ (j : Nat → Value) (A4789 : Option Addr) (c4790 : Nat) (A4792 : Option Addr) (c4793 : Nat) (A4795 : Option Addr) (c4796 : Nat) (A4798 : Option Addr) (c4799 : Nat) (A4801 : Option Addr) (c4802 : Nat), f = updL j [(1, vP b2 0), (3, vP b15 0), (4, vI x3151), (6, vP b3898 0), (9, vI x4803)] ∧ Inv M w [.blk b2 40 [vS A0z0 a0.Keys.length c0z0, vS (some ⟨b3879, q3880, none⟩) a0.Txns.length c0z1], .blk b15 106 [vS A4789 l4788.length c4790, vS A4792 l4791.length c4793, vS A4795 l4794.length c4796, vS A4798 l4797.length c4799, vS A4801 l4800.length c4802], .row tStr 9 A4789 l4788.length c4790 l4788, .row (tInt .i64) 3 A4792 l4791.length c4793 l4791, .row (tSlice 2 (tInt .i64)) 22 A4795 l4794.length c4796 l4794, .row (tInt .i64) 3 A4798 l4797.length c4799 l4797, .row (tInt .i64) 3 A4801 l4800.length c4802 l4800, .blk b3898 92 [vI 0, vI ((idx a0.Txns x3151).Status), vS A4312 l4311.length c4313], .row (kCallL M.blk) 97 A4312 l4311.length c4313 l4311]) H ⟨_, A3137, c3138, A3140, c3141, A3143, c3144, A3146, c3147, A3149, c3150, at_, hI.pick [0, 1, 2, 3, 4, 5, 6, 8, 9] (by decide) rfl⟩ ?_
                clear H hI
                rintro ⟨l4788, l4791, l4794, l4797, l4800, x4803⟩ _ _ o3 H ⟨_, A4789, c4790, A4792, c4793, A4795, c4796, A4798, c4799, A4801, c4802, rfl, hI⟩ hin3 hout3
                refine go_seq (go_seq (rg [.p, .p, .l 0 2, .p, .p] (gA (hI.grp 7 rfl)) ?_))
                replace H := cond_some H
                rcases H with ⟨hc4805, H⟩ | ⟨hc4805, H⟩
                · refine gt hc4805 (go_skip (go_seq (go_block (go_seq (r_in ?_)))))
                  replace H := must_some H
                  obtain ⟨g4886, H⟩ := H
                  obtain ⟨b4887, rfl⟩ := hI.rowAt 8 rfl g4886
                  obtain ⟨cs4890, hk4889, hg4888⟩ := rdS.look (hI.row 8 rfl) (hI.rowlen 8 rfl) g4886
                  obtain ⟨_, _, rfl, rfl, ⟨_, _, rfl, rfl, ⟨_, _, rfl, rfl, ⟨_, _, rfl, rfl, ⟨A4891, c4892, rfl, hl4894, hr4893⟩⟩⟩⟩⟩ := hk4889
                  refine bx 0 [.p, .p, .l 0 2, .p, .x, .l 1 0, .p] (gB (hI.grp 7 rfl) hg4888.ok) _ (bZ g4886) ?_
                  replace H := bind_some H
                  obtain ⟨y4900, hy4901, H⟩ := H
                  obtain ⟨M4895, hJ4896, hs4897, hro4898, hback4899⟩ := hI.call (R := [.blk b15 106 [vS A4789 l4788.length c4790, vS A4792 l4791.length c4793, vS A4795 l4794.length c4796, vS A4798 l4797.length c4799, vS A4801 l4800.length c4802], .row tStr 9 A4789 l4788.length c4790 l4788, .row (tInt .i64) 3 A4792 l4791.length c4793 l4791, .row (tSlice 2 (tInt .i64)) 22 A4795 l4794.length c4796 l4794, .row (tInt .i64) 3 A4798 l4797.length c4799 l4797, .row (tInt .i64) 3 A4801 l4800.length c4802 l4800]) (L0 := [.blk b2 40 [vS A0z0 a0.Keys.length c0z0, vS (some ⟨b3879, q3880, none⟩) a0.Txns.length c0z1], .blk b3898 92 [vI 0, vI ((idx a0.Txns x3151).Status), vS (some ⟨b4887, 0, none⟩) l4311.length c4313], .row (kCallL M.blk) 97 (some ⟨b4887, 0, none⟩) l4311.length c4313 l4311]) [1, 2, 3, 4, 5, 6] [0, 7, 8] (by decide) rfl
                  refine oe 7 rfl ?_
                  refine ec (enter56 _) (assizeref05zbook_enter_calls b15 (⟨l4788, l4791, l4794, l4797, l4800⟩ : Assizeref05Book) A4789 c4790 A4792 c4793 A4795 c4796 A4798 c4799 A4801 c4802 (idx l4311 x4803) A4891 c4892 x3151 M4895 _ hJ4896 (rdS.mono hr4893 hs4897) hl4894 _ hy4901) ?_
                  rintro _ _ ⟨A4902, c4903, A4904, c4905, A4906, c4907, A4908, c4909, A4910, c4911, rfl, hI'⟩
                  replace hI := hback4899 _ _ hI'
                  clear hI'
                  refine ⟨_, rfl, ?_⟩
                  refine bp 8 1 (ro ?_)
                  replace H := cond_some H
                  rcases H with ⟨hc4912, H⟩ | ⟨hc4912, H⟩
                  · refine gt hc4912 (go_seq (rp 1 ?_))
                    replace H := out_some H
                    obtain ⟨_, H, he3⟩ := H
                    have he := (hout3 _ he3).symm
                    subst he
                    replace H := out_some H
                    obtain ⟨_, H, he2⟩ := H
                    have he := (hout2 _ he2).symm
                    subst he
                    replace H := out_some H
                    obtain ⟨_, H, he1⟩ := H
                    have he := (hout1 _ he1).symm
                    subst he
                    replace H := Option.some.inj H
                    subst H
                    exact gr Try.func43 ⟨rfl, hI.pn⟩
                  · refine ge hc4912 (go_skip (go_inBlock (rp 3 ?_)))
                    exact hin3 _ (Option.some.inj H).symm _ _ ⟨_, A4902, c4903, A4904, c4905, A4906, c4907, A4908, c4909, A4910, c4911, at_, hI.pick [6, 0, 1, 2, 3, 4, 5, 7, 8] (by decide) rfl⟩
                · refine ge hc4805 ?_
                  refine go_exit rfl ?_
                  refine go_inBlock (rp 3 ?_)
                  replace H := out_some H
                  obtain ⟨_, H, he3⟩ := H
                  have he := (hout3 _ he3).symm
                  subst he
                  replace H := out_some H
                  obtain ⟨_, H, he2⟩ := H
                  have he := (hout2 _ he2).symm
                  subst he
                  exact hin1 _ (Option.some.inj H).symm _ _ ⟨_, A4789, c4790, A4792, c4793, A4795, c4796, A4798, c4799, A4801, c4802, at_, hI.pick [0, 1, 2, 3, 4, 5, 6] (by decide) rfl⟩
        · refine r_in (bg 0 [.p, .l 0 1, .p] (gA (hI.grp 0 rfl)) ?_)
          replace H := bind_some H
          obtain ⟨y4913, hy4914, H⟩ := H
          refine oe 3 rfl ?_
          refine ec (enter54 _) (assizeref05zplaced_calls (some ⟨b3879, q3880, none⟩) c0z1 a0.Txns x3151 (memOf _) _ (Inv.start _) (hI.rd hr0z1) hl0z1 _ hy4914) ?_
          rintro _ _ ⟨rfl, hI'⟩
          replace hI := hI.call0 hI'
          clear hI'
          refine ⟨_, rfl, ?_⟩
          replace H := cond_some H
          rcases H with ⟨hc4915, H⟩ | ⟨hc4915, H⟩
          · refine bx 4 [.p, .c true, .p, .p, .p, .p, .p] gO _ (bZ (bndEq hc4915)) (ro ?_)
            exact hJ3895 true _ _ ⟨_, at_, hI⟩ H
          · refine bx 4 [.p, .c false, .p, .l 0 4, .p, .p, .p] (gA (hI.grp 7 rfl)) _ (bZ (bndEq hc4915)) (ro ?_)
            exact hJ3895 (decide ((((idx a0.Txns x3151).Ops).length : Int) > 16)) _ _ ⟨_, at_, hI⟩ H
      · refine ge hc3153 ?_
        refine go_exit rfl ?_
        refine go_seq (rp 1 ?_)
        replace H := out_some H
        obtain ⟨_, H, he1⟩ := H
        have he := (hout1 _ he1).symm
        subst he
        replace H := Option.some.inj H
        subst H
        exact gr Try.func43 ⟨rfl, hI.pn⟩
  · refine r_in (bg 0 [.p, .l 0 0] (gA (hI.grp 0 rfl)) ?_)
    replace H := bind_some H
    obtain ⟨y4916, hy4917, H⟩ := H
    refine oe 2 rfl ?_
    refine ec (enter53 _) (assizeref05znames_calls A0z0 c0z0 a0.Keys (memOf _) _ (Inv.start _) (hI.rd hr0z0) hl0z0 _ hy4917) ?_
    rintro _ _ ⟨rfl, hI'⟩
    replace hI := hI.call0 hI'
    clear hI'
    refine ⟨_, rfl, ?_⟩
    replace H := cond_some H
    rcases H with ⟨hc4918, H⟩ | ⟨hc4918, H⟩
    · refine bx 3 [.p, .c true, .p, .p, .p, .p, .p] gO _ (bZ (bndEq hc4918)) (ro ?_)
      exact hJ12 true _ _ ⟨_, at_, hI⟩ H
    · refine bx 3 [.p, .c false, .p, .l 0 1, .p, .p, .p] (gA (hI.grp 0 rfl)) _ (bZ (bndEq hc4918)) (ro ?_)
      exact hJ12 (decide ((a0.Txns.length : Int) > 32)) _ _ ⟨_, at_, hI⟩ H

/-! ### assizeref08zCheck -/
theorem enter22 (a : Array Value) : Sem.pureRun Try.prog (callFunc 22 a) = some (.enter 22 a) := by kernel_rfl
theorem assizeref08zCheck_calls (a0 : Int) (A1z : Option Addr) (c1z : Nat) (a1 : List Int) (M : Mem) (w : World) (hI : Inv M w []) (hr1z : rdS (tInt .i64) M.blk A1z a1) (hl1z : a1.length ≤ c1z) (r : Int) (H : assizeref08zCheck a0 a1 = some r) :
    Calls Try.prog 22 #[vI a0, vS A1z a1.length c1z] w fun e w' => e = .returned (vI r) ∧ Inv M w' [] := by
  refine cg Try.func22 ?_
  intro cs
  unfold assizeref08zCheck at H
  refine go_seq (rp 1 (go_seq ?_))
  refine go_seq_join (o := r) (fun b5 f w => ∃ (j : Nat → Value), f = updL j [(0, vI a0), (1, vS A1z a1.length c1z), (12, vB b5)] ∧ Inv M w []) (fun b5 => assizeref08zCheck.j1 a0 a1 b5) ?_ (fun hJ6 => ?_)
  · clear H hI
    rintro b5 _ _ ⟨_, rfl, hI⟩ H
    replace H := cond_some H
    rcases H with ⟨hc7, H⟩ | ⟨hc7, H⟩
    · refine gt hc7 (go_seq (rp 1 ?_))
      replace H := Option.some.inj H
      subst H
      exact gr Try.func22 ⟨rfl, hI⟩
    · refine ge hc7 (go_skip (go_seq (rp 4 (go_seq (go_seq (rp 1 ?_))))))
      refine go_block_join (o := r) (fun b81 f w => ∃ (j : Nat → Value), f = updL j [(5, vB b81)] ∧ Inv M w []) (fun b81 => assizeref08zCheck.j2 b81) ?_ (fun hJ82 => ?_)
      · clear H hI
        rintro b81 _ _ ⟨_, rfl, hI⟩ H
        refine go_seq (go_seq (rp 2 ?_))
        replace H := cond_some H
        rcases H with ⟨hc84, H⟩ | ⟨hc84, H⟩
        · refine gt hc84 (go_seq (rp 1 ?_))
          replace H := Option.some.inj H
          subst H
          exact gr Try.func22 ⟨rfl, hI⟩
        · refine ge hc84 (go_skip (go_seq (rp 1 ?_)))
          replace H := Option.some.inj H
          subst H
          exact gr Try.func22 ⟨rfl, hI⟩
      · refine go_seq (rp 2 ?_)
        replace H := cond_some H
        rcases H with ⟨hc85, H⟩ | ⟨hc85, H⟩
        · refine gt hc85 (rp 4 (go_inBlock ?_))
          exact hJ82 (decide ((a1.length : Int) ≤ 1)) _ _ ⟨_, at_, hI⟩ H
        · refine ge hc85 (go_seq (rp 2 ?_))
          replace H := cond_some H
          rcases H with ⟨hc86, H⟩ | ⟨hc86, H⟩
          · refine gt hc86 (rp 4 (go_inBlock ?_))
            exact hJ82 ((a1.length : Int) == 1) _ _ ⟨_, at_, hI⟩ H
          · refine ge hc86 (go_seq (rp 2 ?_))
            replace H := cond_some H
            rcases H with ⟨hc87, H⟩ | ⟨hc87, H⟩
            · refine gt hc87 (go_seq (rp 1 (go_block ?_)))
              refine go_iter (assizeref08zCheck.s3 a1) (fun (b145, x146) f w => ∃ (j : Nat → Value), f = updL j [(1, vS A1z a1.length c1z), (5, vB b145), (6, vI x146)] ∧ Inv M w []) H ⟨_, at_, hI⟩ ?_
              clear H hI
              rintro ⟨b145, x146⟩ _ _ o1 H ⟨_, rfl, hI⟩ hin1 hout1
              refine go_seq (go_seq (rp 4 ?_))
              replace H := cond_some H
              rcases H with ⟨hc148, H⟩ | ⟨hc148, H⟩
              · refine gt hc148 (go_skip (go_seq ?_))
                refine go_block_join (o := o1) (fun b160 f w => ∃ (j : Nat → Value), f = updL j [(1, vS A1z a1.length c1z), (5, vB b160), (6, vI x146)] ∧ Inv M w []) (fun b160 => assizeref08zCheck.j4 x146 b160) ?_ (fun hJ161 => ?_)
                · clear H hI
                  rintro b160 _ _ ⟨_, rfl, hI⟩ H
                  refine rp 3 ?_
                  exact hin1 _ (Option.some.inj H).symm _ _ ⟨_, at_, hI⟩
                · replace H := cond_some H
                  rcases H with ⟨hc162, H⟩ | ⟨hc162, H⟩
                  · replace H := must_some H
                    obtain ⟨g163, H⟩ := H
                    obtain ⟨b164, q165, rfl, _⟩ := rdS.fopen hr1z rfl g163
                    replace H := must_some H
                    obtain ⟨g166, H⟩ := H
                    refine dx [.p, .c true, .p, .p, .p, .x, .l 0 0, .p, .p, .x, .l 1 0, .p, .p, .p] (gB (hI.lies (rdS.flook hr1z rfl g163)) (hI.lies (rdS.flook hr1z rfl g166))) _ (bC (bndEq hc162) (bC g163 (bZ g166))) hI ?_
                    clear hI
                    intro _ hI
                    refine go_inBlock ?_
                    exact hJ161 (decide (idx a1 (w64 (x146 - 1)) < idx a1 x146)) _ _ ⟨_, at_, hI⟩ H
                  · refine dx [.p, .c false, .p, .p, .p, .p, .p, .p, .p, .p, .p, .p, .p, .p] gO _ (bZ (bndEq hc162)) hI ?_
                    clear hI
                    intro _ hI
                    refine go_inBlock ?_
                    exact hJ161 false _ _ ⟨_, at_, hI⟩ H
              · refine ge hc148 ?_
                refine go_exit rfl ?_
                refine go_inBlock ?_
                replace H := out_some H
                obtain ⟨_, H, he1⟩ := H
                have he := (hout1 _ he1).symm
                subst he
                exact hJ82 b145 _ _ ⟨_, at_, hI⟩ H
            · refine ge hc87 (go_skip (go_inBlock ?_))
              exact hJ82 (decide ((a1.length : Int) ≤ 64)) _ _ ⟨_, at_, hI⟩ H
  · refine r_in ?_
    replace H := cond_some H
    rcases H with ⟨hc167, H⟩ | ⟨hc167, H⟩
    · refine bx 0 [.p, .p, .c true, .p, .p, .p] gO _ (bZ (bndEq hc167)) (ro ?_)
      exact hJ6 true _ _ ⟨_, at_, hI⟩ H
    · refine bx 0 [.p, .p, .c false, .p, .p, .p] gO _ (bZ (bndEq hc167)) (ro ?_)
      exact hJ6 (decide (a0 > 4)) _ _ ⟨_, at_, hI⟩ H

/-! ### assizeref08zin -/
theorem enter40 (a : Array Value) : Sem.pureRun Try.prog (callFunc 40 a) = some (.enter 40 a) := by kernel_rfl
theorem assizeref08zin_calls (A0z : Option Addr) (c0z : Nat) (a0 : List Int) (a1 : Int) (M : Mem) (w : World) (hI : Inv M w []) (hr0z : rdS (tInt .i64) M.blk A0z a0) (hl0z : a0.length ≤ c0z) (r : Bool) (H : assizeref08zin a0 a1 = some r) :
    Calls Try.prog 40 #[vS A0z a0.length c0z, vI a1] w fun e w' => e = .returned (vB r) ∧ Inv M w' [] := by
  refine cg Try.func40 ?_
  intro cs
  unfold assizeref08zin at H
  refine go_seq (rp 1 (go_seq (go_seq (rp 1 (go_block ?_)))))
  refine go_iter (assizeref08zin.s1 a0 a1) (fun x58 f w => ∃ (j : Nat → Value), f = updL j [(0, vS A0z a0.length c0z), (1, vI a1), (5, vI x58)] ∧ Inv M w []) H ⟨_, at_, hI⟩ ?_
  clear H hI
  rintro x58 _ _ o1 H ⟨_, rfl, hI⟩ hin1 hout1
  refine go_seq (go_seq (rp 4 ?_))
  replace H := cond_some H
  rcases H with ⟨hc60, H⟩ | ⟨hc60, H⟩
  · refine gt hc60 (go_skip (go_seq (go_block (go_seq (r_in ?_)))))
    replace H := must_some H
    obtain ⟨g72, H⟩ := H
    obtain ⟨b73, q74, rfl, _⟩ := rdS.fopen hr0z rfl g72
    refine bx 0 [.p, .p, .x, .l 0 0, .p, .p] (gA (hI.lies (rdS.flook hr0z rfl g72))) _ (bZ g72) (ro ?_)
    replace H := cond_some H
    rcases H with ⟨hc75, H⟩ | ⟨hc75, H⟩
    · refine gt hc75 (go_seq (rp 1 ?_))
      replace H := out_some H
      obtain ⟨_, H, he1⟩ := H
      have he := (hout1 _ he1).symm
      subst he
      replace H := Option.some.inj H
      subst H
      exact gr Try.func40 ⟨rfl, hI⟩
    · refine ge hc75 (go_skip (go_inBlock (rp 3 ?_)))
      exact hin1 _ (Option.some.inj H).symm _ _ ⟨_, at_, hI⟩
  · refine ge hc60 ?_
    refine go_exit rfl ?_
    refine go_seq (rp 1 ?_)
    replace H := out_some H
    obtain ⟨_, H, he1⟩ := H
    have he := (hout1 _ he1).symm
    subst he
    replace H := Option.some.inj H
    subst H
    exact gr Try.func40 ⟨rfl, hI⟩

/-! ### assizeref08zBefore -/
theorem enter25 (a : Array Value) : Sem.pureRun Try.prog (callFunc 25 a) = some (.enter 25 a) := by kernel_rfl
theorem assizeref08zBefore_calls (a0 : Int) (A1z : Option Addr) (c1z : Nat) (a1 : List Int) (A2z : Option Addr) (c2z : Nat) (a2 : List Int) (M : Mem) (w : World) (hI : Inv M w []) (hr1z : rdS (tInt .i64) M.blk A1z a1) (hl1z : a1.length ≤ c1z) (hr2z : rdS (tInt .i64) M.blk A2z a2) (hl2z : a2.length ≤ c2z) (r : List Int × Bool) (H : assizeref08zBefore a0 a1 a2 = some r) :
    Calls Try.prog 25 #[vI a0, vS A1z a1.length c1z, vS A2z a2.length c2z] w fun e w' => ∃ (A859 : Option Addr), ∃ (c860 : Nat), e = .returned (.tuple #[vS A859 r.1.length c860, vB r.2]) ∧ Inv M w' [.row (tInt .i64) 2 A859 r.1.length c860 r.1] := by
  refine cg Try.func25 ?_
  intro cs
  unfold assizeref08zBefore at H
  refine go_seq (rp 2 (go_seq (rp 3 (go_seq ?_))))
  refine go_seq_join (o := r) (fun b9 f w => ∃ (j : Nat → Value), f = updL j [(0, vI a0), (1, vS A1z a1.length c1z), (2, vS A2z a2.length c2z), (8, vI (a2.length : Int)), (24, vB b9)] ∧ Inv M w []) (fun b9 => assizeref08zBefore.j1 a0 a1 a2 b9) ?_ (fun hJ10 => ?_)
  · clear H hI
    rintro b9 _ _ ⟨_, rfl, hI⟩ H
    replace H := cond_some H
    rcases H with ⟨hc11, H⟩ | ⟨hc11, H⟩
    · refine gt hc11 (go_seq (rp 2 ?_))
      replace H := Option.some.inj H
      subst H
      exact gr Try.func25 ⟨none, 0, rfl, (hI.nilrow (tInt .i64) 2)⟩
    · refine ge hc11 (go_skip (go_seq (go_seq (rp 1 (go_block (go_seq (rp 2 ?_)))))))
      replace H := cond_some H
      rcases H with ⟨hc172, H⟩ | ⟨hc172, H⟩
      · refine gt hc172 (go_seq ?_)
        replace H := cond_some H
        rcases H with ⟨hc180, H⟩ | ⟨hc180, H⟩
        · replace H := must_some H
          obtain ⟨g181, H⟩ := H
          obtain ⟨b182, q183, rfl, _⟩ := rdS.fopen hr1z rfl g181
          replace H := must_some H
          obtain ⟨g184, H⟩ := H
          obtain ⟨b185, q186, rfl, _⟩ := rdS.fopen hr2z rfl g184
          refine dx [.p, .p, .p, .c true, .p, .x, .l 0 0, .p, .p, .p, .x, .l 1 0, .p, .p, .p, .p] (gB (hI.lies (rdS.flook hr1z rfl g181)) (hI.lies (rdS.flook hr2z rfl g184))) _ (bC (bndEq hc180) (bC g181 (bZ g184))) hI ?_
          clear hI
          intro _ hI
          replace H := Option.some.inj H
          subst H
          exact gr Try.func25 ⟨none, 0, rfl, (hI.nilrow (tInt .i64) 2)⟩
        · refine dx [.p, .p, .p, .c false, .p, .p, .p, .p, .p, .p, .p, .p, .p, .p, .p, .p] gO _ (bZ (bndEq hc180)) hI ?_
          clear hI
          intro _ hI
          replace H := Option.some.inj H
          subst H
          exact gr Try.func25 ⟨none, 0, rfl, (hI.nilrow (tInt .i64) 2)⟩
      · refine ge hc172 (go_seq (rp 2 ?_))
        replace H := cond_some H
        rcases H with ⟨hc187, H⟩ | ⟨hc187, H⟩
        · refine gt hc187 (go_seq (r_in ?_))
          replace H := must_some H
          obtain ⟨g191, H⟩ := H
          obtain ⟨b192, q193, rfl, _⟩ := rdS.fopen hr1z rfl g191
          refine bx 0 [.p, .x, .l 0 0, .p] (gA (hI.lies (rdS.flook hr1z rfl g191))) _ (bZ g191) (ro (go_seq (go_seq (rp 1 (go_block ?_)))))
          refine go_iter (assizeref08zBefore.s2 a2) (fun (x260, x261) f w => ∃ (j : Nat → Value), f = updL j [(2, vS A2z a2.length c2z), (8, vI (a2.length : Int)), (9, vI x260), (10, vI x261)] ∧ Inv M w []) H ⟨_, at_, hI⟩ ?_
          clear H hI
          rintro ⟨x260, x261⟩ _ _ o1 H ⟨_, rfl, hI⟩ hin1 hout1
          refine go_seq (go_seq (rp 3 ?_))
          replace H := cond_some H
          rcases H with ⟨hc263, H⟩ | ⟨hc263, H⟩
          · refine gt hc263 (go_skip (go_seq (go_block (r_in ?_))))
            replace H := must_some H
            obtain ⟨g270, H⟩ := H
            obtain ⟨b271, q272, rfl, _⟩ := rdS.fopen hr2z rfl g270
            refine bx 0 [.p, .p, .p, .x, .l 0 0, .p, .p] (gA (hI.lies (rdS.flook hr2z rfl g270))) _ (bZ g270) (ro (go_inBlock (rp 3 ?_)))
            exact hin1 _ (Option.some.inj H).symm _ _ ⟨_, at_, hI⟩
          · refine ge hc263 ?_
            refine go_exit rfl ?_
            refine go_seq (r_in (bp 0 1 (oe 1 rfl ?_)))
            refine e_partsS 22 2 1 _ _ _ #[vI x260] [vI x260] rfl rfl rfl rfl (by kernel_rfl) (by kernel_rfl) (by kernel_rfl) (by kernel_rfl) hI ?_
            clear hI
            intro b275 _ hs276 hI
            replace hI := hI.asrow (k := (tInt .i64)) (xs := ([x260] : List Int)) (cs := [vI x260]) (R := []) (L' := []) 1 0 [] [] (by decide) rfl (mks_cons (mk_flat (k := (tInt .i64)) x260 [vI x260] rfl) mks_nil) rfl rfl (by kernel_rfl)
            refine bp 2 2 (ro ?_)
            refine go_is 6 (vS (some ⟨b275, 0, none⟩) 1 1) (vS (some ⟨b275, 0, none⟩) (([x260] : List Int).length) 1) (by kernel_rfl) (by first | rfl | simp only [List.length_set, List.length_replicate, List.length_nil]) ?_
            replace hI := hI.renum 0 rfl
            replace H := out_some H
            obtain ⟨_, H, he1⟩ := H
            have he := (hout1 _ he1).symm
            subst he
            replace H := Option.some.inj H
            subst H
            exact gr Try.func25 ⟨(some ⟨b275, 0, none⟩), 1, rfl, hI⟩
        · refine ge hc187 (go_seq (rp 2 ?_))
          replace H := cond_some H
          rcases H with ⟨hc277, H⟩ | ⟨hc277, H⟩
          · refine gt hc277 (go_seq (go_seq (rp 4 ?_)))
            replace H := cond_some H
            rcases H with ⟨hc279, H⟩ | ⟨hc279, H⟩
            · refine gt hc279 (go_seq (rp 2 ?_))
              replace H := Option.some.inj H
              subst H
              exact gr Try.func25 ⟨none, 0, rfl, (hI.nilrow (tInt .i64) 2)⟩
            · refine ge hc279 (go_skip (go_seq (go_seq (rp 1 (go_block ?_)))))
              refine go_iter (assizeref08zBefore.s3 a1 a2) (fun x361 f w => ∃ (j : Nat → Value), f = updL j [(1, vS A1z a1.length c1z), (2, vS A2z a2.length c2z), (8, vI (a2.length : Int)), (11, vI x361)] ∧ Inv M w []) H ⟨_, at_, hI⟩ ?_
              clear H hI
              rintro x361 _ _ o1 H ⟨_, rfl, hI⟩ hin1 hout1
              refine go_seq (go_seq (rp 3 ?_))
              replace H := cond_some H
              rcases H with ⟨hc363, H⟩ | ⟨hc363, H⟩
              · refine gt hc363 (go_skip (go_seq (go_block (go_seq ?_))))
                replace H := must_some H
                obtain ⟨g384, H⟩ := H
                obtain ⟨b385, q386, rfl, _⟩ := rdS.fopen hr1z rfl g384
                replace H := must_some H
                obtain ⟨g387, H⟩ := H
                obtain ⟨b388, q389, rfl, _⟩ := rdS.fopen hr2z rfl g387
                refine dx [.p, .p, .p, .p, .p, .p, .p, .x, .l 0 0, .p, .p, .x, .l 1 0, .p] (gB (hI.lies (rdS.flook hr1z rfl g384)) (hI.lies (rdS.flook hr2z rfl g387))) _ (bC g384 (bZ g387)) hI ?_
                clear hI
                intro _ hI
                replace H := cond_some H
                rcases H with ⟨hc390, H⟩ | ⟨hc390, H⟩
                · refine gt hc390 (go_seq (rp 2 ?_))
                  replace H := out_some H
                  obtain ⟨_, H, he1⟩ := H
                  have he := (hout1 _ he1).symm
                  subst he
                  replace H := Option.some.inj H
                  subst H
                  exact gr Try.func25 ⟨none, 0, rfl, (hI.nilrow (tInt .i64) 2)⟩
                · refine ge hc390 (go_skip (go_inBlock (rp 3 ?_)))
                  exact hin1 _ (Option.some.inj H).symm _ _ ⟨_, at_, hI⟩
              · refine ge hc363 ?_
                refine go_exit rfl ?_
                refine go_seq (r_in (oe 0 rfl ?_))
                refine e_empty (α := Int) (tInt .i64) 22 2 _ rfl rfl rfl hI ?_
                clear hI
                intro b400 _ hI
                refine bp 1 5 ?_
                replace H := must_some H
                obtain ⟨g401, H⟩ := H
                refine oe 6 rfl ?_
                refine e_slice_ro (tInt .i64) _ 22 2 _ _ _ _ A1z c1z a1 .i64 .i64 (0 : Int) (w64 ((a1.length : Int) - (a2.length : Int))) rfl (by kernel_rfl) (by kernel_rfl) (by kernel_rfl) rfl rfl rfl hr1z hl1z g401 ?_
                intro A402 c403 hr404 hl405
                replace H := must_some H
                obtain ⟨g406, H⟩ := H
                refine oe 7 rfl ?_
                refine e_append_rd (kt := (tInt .i64)) 22 0 2 _ _ _ _ (some ⟨b400, 0, none⟩) A402 0 0 ([] : List Int) (subl a1 (0 : Int) (w64 ((a1.length : Int) - (a2.length : Int)))) c403 0 [] [] rfl (by kernel_rfl) (by kernel_rfl) rfl rfl rfl rfl rfl (by kernel_rfl) hI (by decide) rfl (hI.rd hr404) g406 ?_
                clear hI
                intro A407 c408 _ hI
                refine bp 8 2 (ro ?_)
                replace H := out_some H
                obtain ⟨_, H, he1⟩ := H
                have he := (hout1 _ he1).symm
                subst he
                replace H := Option.some.inj H
                subst H
                exact gr Try.func25 ⟨A407, c408, rfl, hI⟩
          · refine ge hc277 (go_skip (go_inBlock (go_seq (rp 1 (go_seq (go_seq (rp 1 (go_block ?_))))))))
            refine go_iter (assizeref08zBefore.s4 a1 a2) (fun x554 f w => ∃ (j : Nat → Value), f = updL j [(1, vS A1z a1.length c1z), (2, vS A2z a2.length c2z), (8, vI (a2.length : Int)), (12, vS none 0 0), (13, vI x554)] ∧ Inv M w []) H ⟨_, at_, hI⟩ ?_
            clear H hI
            rintro x554 _ _ o1 H ⟨_, rfl, hI⟩ hin1 hout1
            refine go_seq (go_seq (rp 3 ?_))
            replace H := cond_some H
            rcases H with ⟨hc556, H⟩ | ⟨hc556, H⟩
            · refine gt hc556 (go_skip (go_seq (go_block ?_)))
              refine go_seq_join (o := o1) (fun b600 f w => ∃ (j : Nat → Value), f = updL j [(1, vS A1z a1.length c1z), (2, vS A2z a2.length c2z), (8, vI (a2.length : Int)), (12, vS none 0 0), (13, vI x554), (114, vB b600)] ∧ Inv M w []) (fun b600 => assizeref08zBefore.j5 x554 b600) ?_ (fun hJ601 => ?_)
              · clear H hI
                rintro b600 _ _ ⟨_, rfl, hI⟩ H
                replace H := cond_some H
                rcases H with ⟨hc602, H⟩ | ⟨hc602, H⟩
                · refine gt hc602 (go_seq (rp 2 ?_))
                  replace H := out_some H
                  obtain ⟨_, H, he1⟩ := H
                  have he := (hout1 _ he1).symm
                  subst he
                  replace H := Option.some.inj H
                  subst H
                  exact gr Try.func25 ⟨none, 0, rfl, (hI.nilrow (tInt .i64) 2)⟩
                · refine ge hc602 (go_skip (go_inBlock (rp 3 ?_)))
                  exact hin1 _ (Option.some.inj H).symm _ _ ⟨_, at_, hI⟩
              · replace H := must_some H
                obtain ⟨g603, H⟩ := H
                obtain ⟨b604, q605, rfl, _⟩ := rdS.fopen hr2z rfl g603
                replace H := bind_some H
                obtain ⟨y606, hy607, H⟩ := H
                replace H := cond_some H
                rcases H with ⟨hc608, H⟩ | ⟨hc608, H⟩
                · refine go_held (fun w => Inv M w []) (by kernel_rfl) ?_
                  replace hI := hI.drew'
                  refine hx (n := 12) [(0, .p), (1, .p), (2, .p), (3, .x), (4, .l 0 0)] (fun _ hS => (gA (hS.lies (rdS.flook hr2z rfl g603)))) hI _ (bZ g603) ?_
                  refine ho (n := 11) 5 rfl (ec (enter40 _) (assizeref08zin_calls A1z c1z a1 (idx a2 x554) (memOf _) _ (Inv.start _) (hI.rd hr1z) hl1z _ hy607) ?_)
                  rintro _ _ ⟨rfl, hI'⟩
                  replace hI := hI.call0 hI'
                  clear hI'
                  refine ⟨_, rfl, ?_⟩
                  refine ⟨hI, ?_⟩
                  refine hx (n := 0) [(6, .p), (7, .c true), (8, .p), (9, .p), (10, .p), (11, .p), (12, .p), (13, .p), (14, .p), (15, .p), (16, .p)] (fun _ hS => gO) hI _ (bZ (bndEq hc608)) (hd ?_)
                  exact hJ601 true _ _ ⟨_, at_, hI⟩ H
                · replace H := must_some H
                  obtain ⟨g609, H⟩ := H
                  replace H := bind_some H
                  obtain ⟨y614, hy615, H⟩ := H
                  refine go_held (fun w => Inv M w []) (by kernel_rfl) ?_
                  replace hI := hI.drew'
                  refine hx (n := 12) [(0, .p), (1, .p), (2, .p), (3, .x), (4, .l 0 0)] (fun _ hS => (gA (hS.lies (rdS.flook hr2z rfl g603)))) hI _ (bZ g603) ?_
                  refine ho (n := 11) 5 rfl (ec (enter40 _) (assizeref08zin_calls A1z c1z a1 (idx a2 x554) (memOf _) _ (Inv.start _) (hI.rd hr1z) hl1z _ hy607) ?_)
                  rintro _ _ ⟨rfl, hI'⟩
                  replace hI := hI.call0 hI'
                  clear hI'
                  refine ⟨_, rfl, ?_⟩
                  refine ⟨hI, ?_⟩
                  refine hx (n := 3) [(6, .p), (7, .c false), (8, .p), (9, .p), (11, .p), (12, .p), (13, .x), (14, .l 0 0)] (fun _ hS => (gA (hS.lies (rdS.flook hr2z rfl g603)))) hI _ (bC (bndEq hc608) (bZ g603)) ?_
                  refine ho (n := 2) 10 rfl (e_slice_ro (tInt .i64) _ 22 2 _ _ _ _ (some ⟨b604, q605, none⟩) c2z a2 .i64 .i64 (0 : Int) x554 rfl (by kernel_rfl) (by kernel_rfl) (by kernel_rfl) rfl rfl rfl hr2z hl2z g609 ?_)
                  intro A610 c611 hr612 hl613
                  refine ⟨hI, ?_⟩
                  refine ho (n := 1) 15 rfl (ec (enter40 _) (assizeref08zin_calls A610 c611 (subl a2 (0 : Int) x554) (idx a2 x554) (memOf _) _ (Inv.start _) (hI.rd hr612) hl613 _ hy615) ?_)
                  rintro _ _ ⟨rfl, hI'⟩
                  replace hI := hI.call0 hI'
                  clear hI'
                  refine ⟨_, rfl, ?_⟩
                  refine ⟨hI, ?_⟩
                  refine hg (n := 0) [(16, .p)] (fun _ hS => gO) hI (hd ?_)
                  exact hJ601 y614 _ _ ⟨_, at_, hI⟩ H
            · refine ge hc556 ?_
              refine go_exit rfl ?_
              refine go_seq (go_seq (rp 1 (go_block ?_)))
              refine go_iter (assizeref08zBefore.s6 a1 a2) (fun (l804, x807) f w => ∃ (j : Nat → Value) (A805 : Option Addr) (c806 : Nat), f = updL j [(1, vS A1z a1.length c1z), (2, vS A2z a2.length c2z), (12, vS A805 l804.length c806), (14, vI x807)] ∧ Inv M w [.row (tInt .i64) 2 A805 l804.length c806 l804]) H ⟨_, none, 0, at_, (hI.nilrow (tInt .i64) 2)⟩ ?_
              clear H hI
              rintro ⟨l804, x807⟩ _ _ o2 H ⟨_, A805, c806, rfl, hI⟩ hin2 hout2
              refine go_seq (go_seq (rp 4 ?_))
              replace H := cond_some H
              rcases H with ⟨hc809, H⟩ | ⟨hc809, H⟩
              · refine gt hc809 (go_skip (go_seq ?_))
                refine go_block_join (o := o2) (fun l835 f w => ∃ (j : Nat → Value) (A836 : Option Addr) (c837 : Nat), f = updL j [(1, vS A1z a1.length c1z), (2, vS A2z a2.length c2z), (12, vS A836 l835.length c837), (14, vI x807)] ∧ Inv M w [.row (tInt .i64) 2 A836 l835.length c837 l835]) (fun l835 => assizeref08zBefore.j7 x807 l835) ?_ (fun hJ838 => ?_)
                · clear H hI
                  rintro l835 _ _ ⟨_, A836, c837, rfl, hI⟩ H
                  refine rp 3 ?_
                  exact hin2 _ (Option.some.inj H).symm _ _ ⟨_, A836, c837, at_, hI⟩
                · refine go_seq (r_in ?_)
                  replace H := must_some H
                  obtain ⟨g844, H⟩ := H
                  obtain ⟨b845, q846, rfl, _⟩ := rdS.fopen hr1z rfl g844
                  refine bx 0 [.p, .p, .p, .x, .l 0 0] (gA (hI.lies (rdS.flook hr1z rfl g844))) _ (bZ g844) ?_
                  replace H := bind_some H
                  obtain ⟨y847, hy848, H⟩ := H
                  refine oe 5 rfl ?_
                  refine ec (enter40 _) (assizeref08zin_calls A2z c2z a2 (idx a1 x807) (memOf _) _ (Inv.start _) (hI.rd hr2z) hl2z _ hy848) ?_
                  rintro _ _ ⟨rfl, hI'⟩
                  replace hI := hI.call0 hI'
                  clear hI'
                  refine ⟨_, rfl, ?_⟩
                  refine bp 6 1 (ro ?_)
                  replace H := cond_some H
                  rcases H with ⟨hc849, H⟩ | ⟨hc849, H⟩
                  · refine gt hc849 (r_in (bx 0 [.p, .p, .p, .x, .l 0 0] (gA (hI.lies (rdS.flook hr1z rfl g844))) _ (bZ g844) (oe 5 rfl ?_)))
                    refine e_partsS 22 2 1 _ _ _ #[vI (idx a1 x807)] [vI (idx a1 x807)] rfl rfl rfl rfl (by kernel_rfl) (by kernel_rfl) (by kernel_rfl) (by kernel_rfl) hI ?_
                    clear hI
                    intro b850 _ hs851 hI
                    replace H := must_some H
                    obtain ⟨g852, H⟩ := H
                    refine oe 6 rfl ?_
                    refine e_append (tInt .i64) 22 0 2 _ _ _ _ A805 l804.length c806 l804 ([idx a1 x807] : List Int) b850 0 1 1 [vI (idx a1 x807)] 0 [] [1] [] [.blk b850 2 [vI (idx a1 x807)]] rfl (by kernel_rfl) (by kernel_rfl) rfl rfl rfl rfl rfl (by kernel_rfl) hI (by decide) rfl rfl rfl (hI.grp 1 rfl) g852 (mks_cons (mk_flat (k := (tInt .i64)) (idx a1 x807) [vI (idx a1 x807)] rfl) mks_nil) ?_
                    clear hI
                    intro A853 c854 _ hI
                    replace hI := hI.pick (L' := [.row (tInt .i64) 2 A853 ((l804 ++ ([idx a1 x807] : List Int)).length) c854 (l804 ++ ([idx a1 x807] : List Int))]) [0] (by decide) rfl
                    refine bp 7 1 (ro (go_inBlock ?_))
                    exact hJ838 (l804 ++ ([idx a1 x807] : List Int)) _ _ ⟨_, A853, c854, at_, hI⟩ H
                  · refine ge hc849 (go_skip (go_inBlock ?_))
                    exact hJ838 l804 _ _ ⟨_, A805, c806, at_, hI⟩ H
              · refine ge hc809 ?_
                refine go_exit rfl ?_
                refine go_seq (rp 3 ?_)
                replace H := out_some H
                obtain ⟨_, H, he2⟩ := H
                have he := (hout2 _ he2).symm
                subst he
                replace H := out_some H
                obtain ⟨_, H, he1⟩ := H
                have he := (hout1 _ he1).symm
                subst he
                replace H := Option.some.inj H
                subst H
                exact gr Try.func25 ⟨A805, c806, rfl, hI⟩
  · refine r_in (bp 0 2 ?_)
    replace H := bind_some H
    obtain ⟨y855, hy856, H⟩ := H
    refine oe 2 rfl ?_
    refine ec (enter22 _) (assizeref08zCheck_calls a0 A1z c1z a1 (memOf _) _ (Inv.start _) (hI.rd hr1z) hl1z _ hy856) ?_
    rintro _ _ ⟨rfl, hI'⟩
    replace hI := hI.call0 hI'
    clear hI'
    refine ⟨_, rfl, ?_⟩
    replace H := cond_some H
    rcases H with ⟨hc857, H⟩ | ⟨hc857, H⟩
    · refine bx 3 [.p, .c true, .p, .p, .p] gO _ (bZ (bndEq hc857)) (ro ?_)
      exact hJ10 true _ _ ⟨_, at_, hI⟩ H
    · refine bx 3 [.p, .c false, .p, .p, .p] gO _ (bZ (bndEq hc857)) (ro ?_)
      exact hJ10 ((a2.length : Int) == 0) _ _ ⟨_, at_, hI⟩ H

/-! ### assizeref05zWrites -/
theorem enter57 (a : Array Value) : Sem.pureRun Try.prog (callFunc 57 a) = some (.enter 57 a) := by kernel_rfl
theorem assizeref05zWrites_calls (a0 : Int) (M : Mem) (w : World) (hI : Inv M w []) (r : Bool) (H : assizeref05zWrites a0 = some r) :
    Calls Try.prog 57 #[vI a0] w fun e w' => e = .returned (vB r) ∧ Inv M w' [] := by
  refine cg Try.func57 ?_
  intro cs
  unfold assizeref05zWrites at H
  refine go_seq (rp 1 (go_seq (rp 3 ?_)))
  replace H := Option.some.inj H
  subst H
  exact gr Try.func57 ⟨rfl, hI⟩

/-! ### assizeref09zof -/
theorem enter44 (a : Array Value) : Sem.pureRun Try.prog (callFunc 44 a) = some (.enter 44 a) := by kernel_rfl
theorem assizeref09zof_calls (a0 : History) (A0z0 : Option Addr) (c0z0 : Nat) (A0z1 : Option Addr) (c0z1 : Nat) (a1 : Int) (M : Mem) (w : World) (hI : Inv M w []) (hr0z0 : rdS tStr M.blk A0z0 a0.Keys) (hl0z0 : a0.Keys.length ≤ c0z0) (hr0z1 : rdS kTxn M.blk A0z1 a0.Txns) (hl0z1 : a0.Txns.length ≤ c0z1) (r : List Ask × List Spot) (H : assizeref09zof a0 a1 = some r) :
    Calls Try.prog 44 #[.agg #[vS A0z0 a0.Keys.length c0z0, vS A0z1 a0.Txns.length c0z1], vI a1] w fun e w' => ∃ (A2557 : Option Addr), ∃ (c2558 : Nat), ∃ (A2559 : Option Addr), ∃ (c2560 : Nat), e = .returned (.tuple #[vS A2557 r.1.length c2558, vS A2559 r.2.length c2560]) ∧ Inv M w' [.row kAsk 51 A2557 r.1.length c2558 r.1, .row kSpot 53 A2559 r.2.length c2560 r.2] := by
  refine cg Try.func44 ?_
  intro cs
  unfold assizeref09zof at H
  refine go_seq (r_in (oe 0 rfl ?_))
  refine e_box 40 _ (.agg #[vS A0z0 a0.Keys.length c0z0, vS A0z1 a0.Txns.length c0z1]) [vS A0z0 a0.Keys.length c0z0, vS A0z1 a0.Txns.length c0z1] rfl (by kernel_rfl) rfl hI ?_
  clear hI
  intro b2 _ hI
  refine bp 1 2 (ro (go_seq (rp 1 (go_seq (rp 1 (go_seq (r_in ?_)))))))
  replace H := must_some H
  obtain ⟨g14, H⟩ := H
  obtain ⟨b18, q19, rfl, cs17, hk16, hg15⟩ := rdS.open hr0z1 rfl g14
  obtain ⟨_, _, rfl, rfl, ⟨_, _, rfl, rfl, ⟨_, _, rfl, rfl, ⟨_, _, rfl, rfl, ⟨A20, c21, rfl, hl23, hr22⟩⟩⟩⟩⟩ := hk16
  refine bx 0 [.p, .l 0 1, .p, .x, .l 1 0] (gB (hI.grp 0 rfl) (hI.lies hg15)) _ (bZ g14) (oe 5 rfl ?_)
  refine e_alloc 61 (.agg #[vI 0, vI 0, vI 0, vI 0, vS none 0 0]) [vI 0, vI 0, vI 0, vI 0, vS none 0 0] rfl (by kernel_rfl) rfl hI ?_
  clear hI
  intro b24 _ hI
  refine oe 6 rfl ?_
  refine e_store 61 _ _ 1 b24 61 [vI 0, vI 0, vI 0, vI 0, vS none 0 0] [vI ((idx a0.Txns a1).Proc), vI ((idx a0.Txns a1).Status), vI ((idx a0.Txns a1).From), vI ((idx a0.Txns a1).To), vS A20 (((idx a0.Txns a1).Ops).length) c21] 0 (.agg #[vI ((idx a0.Txns a1).Proc), vI ((idx a0.Txns a1).Status), vI ((idx a0.Txns a1).From), vI ((idx a0.Txns a1).To), vS A20 (((idx a0.Txns a1).Ops).length) c21]) rfl (by kernel_rfl) (by kernel_rfl) (by kernel_rfl) (by kernel_rfl) hI rfl (by kernel_rfl) (by kernel_rfl) ?_
  clear hI
  intro _ hI
  refine ro (go_seq (go_seq (rg [.p, .l 0 1, .p] (gA (hI.grp 1 rfl)) ?_)))
  replace H := cond_some H
  rcases H with ⟨hc26, H⟩ | ⟨hc26, H⟩
  · refine gt hc26 (go_seq (rp 2 ?_))
    replace H := Option.some.inj H
    subst H
    exact gr Try.func44 ⟨none, 0, none, 0, rfl, ((hI.nilrow kAsk 51).nilrow kSpot 53).pick [2, 3] (by decide) rfl⟩
  · refine ge hc26 (go_skip (go_seq (go_seq (rp 1 (go_block ?_)))))
    refine go_iter (assizeref09zof.s1 a0 a1) (fun (l1596, l1599, x1602) f w => ∃ (j : Nat → Value) (A1597 : Option Addr) (c1598 : Nat) (A1600 : Option Addr) (c1601 : Nat), f = updL j [(1, vI a1), (6, vS A1597 l1596.length c1598), (7, vS A1600 l1599.length c1601), (8, vP b24 0), (9, vI x1602)] ∧ Inv M w [.row kAsk 51 A1597 l1596.length c1598 l1596, .row kSpot 53 A1600 l1599.length c1601 l1599, .blk b24 61 [vI ((idx a0.Txns a1).Proc), vI ((idx a0.Txns a1).Status), vI ((idx a0.Txns a1).From), vI ((idx a0.Txns a1).To), vS A20 (((idx a0.Txns a1).Ops).length) c21]]) H ⟨_, none, 0, none, 0, at_, ((hI.nilrow kAsk 51).nilrow kSpot 53).pick [2, 3, 1] (by decide) rfl⟩ ?_
    clear H hI
    rintro ⟨l1596, l1599, x1602⟩ _ _ o1 H ⟨_, A1597, c1598, A1600, c1601, rfl, hI⟩ hin1 hout1
    refine go_seq (go_seq (rg [.p, .p, .l 0 4, .p, .p] (gA (hI.grp 2 rfl)) ?_))
    replace H := cond_some H
    rcases H with ⟨hc1604, H⟩ | ⟨hc1604, H⟩
    · refine gt hc1604 (go_skip (go_seq ?_))
      refine go_block_join (o := o1) (fun (l1961, l1964) f w => ∃ (j : Nat → Value) (A1962 : Option Addr) (c1963 : Nat) (A1965 : Option Addr) (c1966 : Nat), f = updL j [(1, vI a1), (6, vS A1962 l1961.length c1963), (7, vS A1965 l1964.length c1966), (8, vP b24 0), (9, vI x1602)] ∧ Inv M w [.row kAsk 51 A1962 l1961.length c1963 l1961, .row kSpot 53 A1965 l1964.length c1966 l1964, .blk b24 61 [vI ((idx a0.Txns a1).Proc), vI ((idx a0.Txns a1).Status), vI ((idx a0.Txns a1).From), vI ((idx a0.Txns a1).To), vS A20 (((idx a0.Txns a1).Ops).length) c21]]) (fun (l1961, l1964) => assizeref09zof.j2 x1602 l1961 l1964) ?_ (fun hJ1967 => ?_)
      · clear H hI
        rintro ⟨l1961, l1964⟩ _ _ ⟨_, A1962, c1963, A1965, c1966, rfl, hI⟩ H
        refine rp 3 ?_
        exact hin1 _ (Option.some.inj H).symm _ _ ⟨_, A1962, c1963, A1965, c1966, at_, hI⟩
      · refine go_seq (r_in ?_)
        replace H := must_some H
        obtain ⟨g1979, H⟩ := H
        obtain ⟨b1983, q1984, rfl, cs1982, hk1981, hg1980⟩ := rdS.open hr22 rfl g1979
        obtain ⟨_, _, rfl, rfl, ⟨_, _, rfl, rfl, ⟨_, _, rfl, rfl, ⟨_, _, rfl, rfl, ⟨A1985, c1986, rfl, hl1988, hr1987⟩⟩⟩⟩⟩ := hk1981
        refine bx 0 [.p, .l 0 4, .p, .x, .l 1 0] (gB (hI.grp 2 rfl) (hI.lies hg1980)) _ (bZ g1979) (oe 5 rfl ?_)
        refine e_alloc 63 (.agg #[vI 0, vI 0, vI 0, vB false, vS none 0 0]) [vI 0, vI 0, vI 0, vB false, vS none 0 0] rfl (by kernel_rfl) rfl hI ?_
        clear hI
        intro b1989 _ hI
        refine oe 6 rfl ?_
        refine e_store 63 _ _ 3 b1989 63 [vI 0, vI 0, vI 0, vB false, vS none 0 0] [vI ((idx ((idx a0.Txns a1).Ops) x1602).Kind), vI ((idx ((idx a0.Txns a1).Ops) x1602).Key), vI ((idx ((idx a0.Txns a1).Ops) x1602).Arg), vB ((idx ((idx a0.Txns a1).Ops) x1602).Got), vS A1985 (((idx ((idx a0.Txns a1).Ops) x1602).Vals).length) c1986] 0 (.agg #[vI ((idx ((idx a0.Txns a1).Ops) x1602).Kind), vI ((idx ((idx a0.Txns a1).Ops) x1602).Key), vI ((idx ((idx a0.Txns a1).Ops) x1602).Arg), vB ((idx ((idx a0.Txns a1).Ops) x1602).Got), vS A1985 (((idx ((idx a0.Txns a1).Ops) x1602).Vals).length) c1986]) rfl (by kernel_rfl) (by kernel_rfl) (by kernel_rfl) (by kernel_rfl) hI rfl (by kernel_rfl) (by kernel_rfl) ?_
        clear hI
        intro _ hI
        refine ro (go_seq (go_seq (r_in (bg 0 [.p, .l 0 0] (gA (hI.grp 3 rfl)) ?_))))
        replace H := bind_some H
        obtain ⟨y1995, hy1996, H⟩ := H
        refine oe 2 rfl ?_
        refine ec (enter57 _) (assizeref05zWrites_calls ((idx ((idx a0.Txns a1).Ops) x1602).Kind) (memOf _) _ (Inv.start _) _ hy1996) ?_
        rintro _ _ ⟨rfl, hI'⟩
        replace hI := hI.call0 hI'
        clear hI'
        refine ⟨_, rfl, ?_⟩
        refine ro ?_
        replace H := cond_some H
        rcases H with ⟨hc1997, H⟩ | ⟨hc1997, H⟩
        · refine gt hc1997 ?_
          refine go_exit rfl ?_
          exact hJ1967 (l1596, l1599) _ _ ⟨_, A1597, c1598, A1600, c1601, at_, hI.pick [0, 1, 2] (by decide) rfl⟩ H
        · refine ge hc1997 (go_skip (go_seq (rp 1 (go_seq (go_seq (rp 1 (go_block ?_)))))))
          refine go_iter (assizeref09zof.s3 a0 a1 l1596 l1599 x1602) (fun (l2362, x2365) f w => ∃ (j : Nat → Value) (A2363 : Option Addr) (c2364 : Nat), f = updL j [(1, vI a1), (6, vS A1597 l1596.length c1598), (7, vS A1600 l1599.length c1601), (8, vP b24 0), (9, vI x1602), (10, vP b1989 0), (11, vS A2363 l2362.length c2364), (12, vI x2365)] ∧ Inv M w [.row kAsk 51 A1597 l1596.length c1598 l1596, .row kSpot 53 A1600 l1599.length c1601 l1599, .blk b24 61 [vI ((idx a0.Txns a1).Proc), vI ((idx a0.Txns a1).Status), vI ((idx a0.Txns a1).From), vI ((idx a0.Txns a1).To), vS (some ⟨b1983, q1984, none⟩) (((idx a0.Txns a1).Ops).length) c21], .blk b1989 63 [vI ((idx ((idx a0.Txns a1).Ops) x1602).Kind), vI ((idx ((idx a0.Txns a1).Ops) x1602).Key), vI ((idx ((idx a0.Txns a1).Ops) x1602).Arg), vB ((idx ((idx a0.Txns a1).Ops) x1602).Got), vS A1985 (((idx ((idx a0.Txns a1).Ops) x1602).Vals).length) c1986], .row (tInt .i64) 2 A2363 l2362.length c2364 l2362]) H ⟨_, none, 0, at_, (hI.nilrow (tInt .i64) 2)⟩ ?_
          clear H hI
          rintro ⟨l2362, x2365⟩ _ _ o2 H ⟨_, A2363, c2364, rfl, hI⟩ hin2 hout2
          refine go_seq (go_seq (rp 3 ?_))
          replace H := cond_some H
          rcases H with ⟨hc2367, H⟩ | ⟨hc2367, H⟩
          · refine gt hc2367 (go_skip (go_seq ?_))
            refine go_block_join (o := o2) (fun l2437 f w => ∃ (j : Nat → Value) (A2438 : Option Addr) (c2439 : Nat), f = updL j [(1, vI a1), (6, vS A1597 l1596.length c1598), (7, vS A1600 l1599.length c1601), (8, vP b24 0), (9, vI x1602), (10, vP b1989 0), (11, vS A2438 l2437.length c2439), (12, vI x2365)] ∧ Inv M w [.row kAsk 51 A1597 l1596.length c1598 l1596, .row kSpot 53 A1600 l1599.length c1601 l1599, .blk b24 61 [vI ((idx a0.Txns a1).Proc), vI ((idx a0.Txns a1).Status), vI ((idx a0.Txns a1).From), vI ((idx a0.Txns a1).To), vS (some ⟨b1983, q1984, none⟩) (((idx a0.Txns a1).Ops).length) c21], .blk b1989 63 [vI ((idx ((idx a0.Txns a1).Ops) x1602).Kind), vI ((idx ((idx a0.Txns a1).Ops) x1602).Key), vI ((idx ((idx a0.Txns a1).Ops) x1602).Arg), vB ((idx ((idx a0.Txns a1).Ops) x1602).Got), vS A1985 (((idx ((idx a0.Txns a1).Ops) x1602).Vals).length) c1986], .row (tInt .i64) 2 A2438 l2437.length c2439 l2437]) (fun l2437 => assizeref09zof.j4 x2365 l2437) ?_ (fun hJ2440 => ?_)
            · clear H hI
              rintro l2437 _ _ ⟨_, A2438, c2439, rfl, hI⟩ H
              refine rp 3 ?_
              exact hin2 _ (Option.some.inj H).symm _ _ ⟨_, A2438, c2439, at_, hI⟩
            · refine go_seq_join (o := o2) (fun b2459 f w => ∃ (j : Nat → Value), f = updL j [(1, vI a1), (6, vS A1597 l1596.length c1598), (7, vS A1600 l1599.length c1601), (8, vP b24 0), (9, vI x1602), (10, vP b1989 0), (11, vS A2363 l2362.length c2364), (12, vI x2365), (61, vB b2459)] ∧ Inv M w [.row kAsk 51 A1597 l1596.length c1598 l1596, .row kSpot 53 A1600 l1599.length c1601 l1599, .blk b24 61 [vI ((idx a0.Txns a1).Proc), vI ((idx a0.Txns a1).Status), vI ((idx a0.Txns a1).From), vI ((idx a0.Txns a1).To), vS (some ⟨b1983, q1984, none⟩) (((idx a0.Txns a1).Ops).length) c21], .blk b1989 63 [vI ((idx ((idx a0.Txns a1).Ops) x1602).Kind), vI ((idx ((idx a0.Txns a1).Ops) x1602).Key), vI ((idx ((idx a0.Txns a1).Ops) x1602).Arg), vB ((idx ((idx a0.Txns a1).Ops) x1602).Got), vS A1985 (((idx ((idx a0.Txns a1).Ops) x1602).Vals).length) c1986], .row (tInt .i64) 2 A2363 l2362.length c2364 l2362]) (fun b2459 => assizeref09zof.j5 a0 a1 l2362 x2365 b2459) ?_ (fun hJ2460 => ?_)
              · clear H hI
                rintro b2459 _ _ ⟨_, rfl, hI⟩ H
                replace H := cond_some H
                rcases H with ⟨hc2461, H⟩ | ⟨hc2461, H⟩
                · refine gt hc2461 (r_in ?_)
                  replace H := must_some H
                  obtain ⟨g2462, H⟩ := H
                  obtain ⟨cs2465, hk2464, hg2463⟩ := rdS.look hr22 rfl g2462
                  obtain ⟨_, _, rfl, rfl, ⟨_, _, rfl, rfl, ⟨_, _, rfl, rfl, ⟨_, _, rfl, rfl, ⟨A2466, c2467, rfl, hl2469, hr2468⟩⟩⟩⟩⟩ := hk2464
                  refine bx 0 [.p, .p, .l 0 4, .p, .x, .p, .l 1 2] (gB (hI.grp 2 rfl) (hI.lies hg2463)) _ (bZ g2462) (oe 7 rfl ?_)
                  refine e_partsS 22 2 1 _ _ _ #[vI ((idx ((idx a0.Txns a1).Ops) x2365).Arg)] [vI ((idx ((idx a0.Txns a1).Ops) x2365).Arg)] rfl rfl rfl rfl (by kernel_rfl) (by kernel_rfl) (by kernel_rfl) (by kernel_rfl) hI ?_
                  clear hI
                  intro b2470 _ hs2471 hI
                  replace H := must_some H
                  obtain ⟨g2472, H⟩ := H
                  refine oe 8 rfl ?_
                  refine e_append (tInt .i64) 22 0 2 _ _ _ _ A2363 l2362.length c2364 l2362 ([(idx ((idx a0.Txns a1).Ops) x2365).Arg] : List Int) b2470 0 1 1 [vI ((idx ((idx a0.Txns a1).Ops) x2365).Arg)] 4 [] [0, 1, 2, 3, 5] [] [.row kAsk 51 A1597 l1596.length c1598 l1596, .row kSpot 53 A1600 l1599.length c1601 l1599, .blk b24 61 [vI ((idx a0.Txns a1).Proc), vI ((idx a0.Txns a1).Status), vI ((idx a0.Txns a1).From), vI ((idx a0.Txns a1).To), vS (some ⟨b1983, q1984, none⟩) (((idx a0.Txns a1).Ops).length) c21], .blk b1989 63 [vI ((idx ((idx a0.Txns a1).Ops) x1602).Kind), vI ((idx ((idx a0.Txns a1).Ops) x1602).Key), vI ((idx ((idx a0.Txns a1).Ops) x1602).Arg), vB ((idx ((idx a0.Txns a1).Ops) x1602).Got), vS A1985 (((idx ((idx a0.Txns a1).Ops) x1602).Vals).length) c1986], .blk b2470 2 [vI ((idx ((idx a0.Txns a1).Ops) x2365).Arg)]] rfl (by kernel_rfl) (by kernel_rfl) rfl rfl rfl rfl rfl (by kernel_rfl) hI (by decide) rfl rfl rfl (hI.grp 5 rfl) g2472 (mks_cons (mk_flat (k := (tInt .i64)) ((idx ((idx a0.Txns a1).Ops) x2365).Arg) [vI ((idx ((idx a0.Txns a1).Ops) x2365).Arg)] rfl) mks_nil) ?_
                  clear hI
                  intro A2473 c2474 _ hI
                  replace hI := hI.pick (L' := [.row (tInt .i64) 2 A2473 ((l2362 ++ ([(idx ((idx a0.Txns a1).Ops) x2365).Arg] : List Int)).length) c2474 (l2362 ++ ([(idx ((idx a0.Txns a1).Ops) x2365).Arg] : List Int)), .row kAsk 51 A1597 l1596.length c1598 l1596, .row kSpot 53 A1600 l1599.length c1601 l1599, .blk b24 61 [vI ((idx a0.Txns a1).Proc), vI ((idx a0.Txns a1).Status), vI ((idx a0.Txns a1).From), vI ((idx a0.Txns a1).To), vS (some ⟨b1983, q1984, none⟩) (((idx a0.Txns a1).Ops).length) c21], .blk b1989 63 [vI ((idx ((idx a0.Txns a1).Ops) x1602).Kind), vI ((idx ((idx a0.Txns a1).Ops) x1602).Key), vI ((idx ((idx a0.Txns a1).Ops) x1602).Arg), vB ((idx ((idx a0.Txns a1).Ops) x1602).Got), vS A1985 (((idx ((idx a0.Txns a1).Ops) x1602).Vals).length) c1986]]) [0, 1, 2, 3, 4] (by decide) rfl
                  refine bp 9 1 (ro (go_inBlock ?_))
                  exact hJ2440 (l2362 ++ ([(idx ((idx a0.Txns a1).Ops) x2365).Arg] : List Int)) _ _ ⟨_, A2473, c2474, at_, hI.pick [1, 2, 3, 4, 0] (by decide) rfl⟩ H
                · refine ge hc2461 (go_skip (go_inBlock ?_))
                  exact hJ2440 l2362 _ _ ⟨_, A2363, c2364, at_, hI⟩ H
              · replace H := must_some H
                obtain ⟨g2475, H⟩ := H
                obtain ⟨cs2478, hk2477, hg2476⟩ := rdS.look hr22 rfl g2475
                obtain ⟨_, _, rfl, rfl, ⟨_, _, rfl, rfl, ⟨_, _, rfl, rfl, ⟨_, _, rfl, rfl, ⟨A2479, c2480, rfl, hl2482, hr2481⟩⟩⟩⟩⟩ := hk2477
                replace H := cond_some H
                rcases H with ⟨hc2483, H⟩ | ⟨hc2483, H⟩
                · obtain ⟨cs2486, hk2485, hg2484⟩ := rdS.look hr22 rfl g2475
                  obtain ⟨_, _, rfl, rfl, ⟨_, _, rfl, rfl, ⟨_, _, rfl, rfl, ⟨_, _, rfl, rfl, ⟨A2487, c2488, rfl, hl2490, hr2489⟩⟩⟩⟩⟩ := hk2485
                  replace H := bind_some H
                  obtain ⟨y2491, hy2492, H⟩ := H
                  refine go_held (fun w => Inv M w [.row kAsk 51 A1597 l1596.length c1598 l1596, .row kSpot 53 A1600 l1599.length c1601 l1599, .blk b24 61 [vI ((idx a0.Txns a1).Proc), vI ((idx a0.Txns a1).Status), vI ((idx a0.Txns a1).From), vI ((idx a0.Txns a1).To), vS (some ⟨b1983, q1984, none⟩) (((idx a0.Txns a1).Ops).length) c21], .blk b1989 63 [vI ((idx ((idx a0.Txns a1).Ops) x1602).Kind), vI ((idx ((idx a0.Txns a1).Ops) x1602).Key), vI ((idx ((idx a0.Txns a1).Ops) x1602).Arg), vB ((idx ((idx a0.Txns a1).Ops) x1602).Got), vS A1985 (((idx ((idx a0.Txns a1).Ops) x1602).Vals).length) c1986], .row (tInt .i64) 2 A2363 l2362.length c2364 l2362]) (by kernel_rfl) ?_
                  replace hI := hI.drew'
                  refine hx (n := 2) [(0, .p), (1, .l 0 4), (2, .p), (3, .x), (4, .p), (5, .l 1 1), (6, .p), (7, .l 2 1), (8, .p), (9, .c true), (10, .p), (11, .l 0 4), (12, .p), (13, .x), (14, .p), (15, .l 3 0)] (fun _ hS => (gD (hS.grp 2 rfl) (hS.lies hg2476) (hS.grp 3 rfl) (hS.lies hg2484))) hI _ (bC g2475 (bC (bndEq hc2483) (bZ g2475))) ?_
                  refine ho (n := 1) 16 rfl (ec (enter57 _) (assizeref05zWrites_calls ((idx ((idx a0.Txns a1).Ops) x2365).Kind) (memOf _) _ (Inv.start _) _ hy2492) ?_)
                  rintro _ _ ⟨rfl, hI'⟩
                  replace hI := hI.call0 hI'
                  clear hI'
                  refine ⟨_, rfl, ?_⟩
                  refine ⟨hI, ?_⟩
                  refine hg (n := 0) [(17, .p)] (fun _ hS => gO) hI (hd ?_)
                  exact hJ2460 y2491 _ _ ⟨_, at_, hI⟩ H
                · refine dx [.p, .l 0 4, .p, .x, .p, .l 1 1, .p, .l 2 1, .p, .c false, .p, .p, .p, .p, .p, .p, .p, .p] (gC (hI.grp 2 rfl) (hI.lies hg2476) (hI.grp 3 rfl)) _ (bC g2475 (bZ (bndEq hc2483))) hI ?_
                  clear hI
                  intro _ hI
                  exact hJ2460 false _ _ ⟨_, at_, hI⟩ H
          · refine ge hc2367 ?_
            refine go_exit rfl ?_
            refine go_seq (r_in (oe 0 rfl ?_))
            refine e_empty (α := Int) (tInt .i64) 22 2 _ rfl rfl rfl hI ?_
            clear hI
            intro b2497 _ hI
            refine bg 1 [.p, .l 0 4] (gA (hI.grp 3 rfl)) ?_
            replace H := must_some H
            obtain ⟨g2498, H⟩ := H
            refine oe 3 rfl ?_
            refine e_append_rd (kt := (tInt .i64)) 22 0 2 _ _ _ _ (some ⟨b2497, 0, none⟩) A1985 0 0 ([] : List Int) ((idx ((idx a0.Txns a1).Ops) x1602).Vals) c1986 5 [0, 1, 2, 3, 4] [.row kAsk 51 A1597 l1596.length c1598 l1596, .row kSpot 53 A1600 l1599.length c1601 l1599, .blk b24 61 [vI ((idx a0.Txns a1).Proc), vI ((idx a0.Txns a1).Status), vI ((idx a0.Txns a1).From), vI ((idx a0.Txns a1).To), vS (some ⟨b1983, q1984, none⟩) (((idx a0.Txns a1).Ops).length) c21], .blk b1989 63 [vI ((idx ((idx a0.Txns a1).Ops) x1602).Kind), vI ((idx ((idx a0.Txns a1).Ops) x1602).Key), vI ((idx ((idx a0.Txns a1).Ops) x1602).Arg), vB ((idx ((idx a0.Txns a1).Ops) x1602).Got), vS A1985 (((idx ((idx a0.Txns a1).Ops) x1602).Vals).length) c1986], .row (tInt .i64) 2 A2363 l2362.length c2364 l2362] rfl (by kernel_rfl) (by kernel_rfl) rfl rfl rfl rfl rfl (by kernel_rfl) hI (by decide) rfl (hI.rd hr1987) g2498 ?_
            clear hI
            intro A2499 c2500 _ hI
            refine bp 4 1 (ro ?_)
            refine go_seq_join (o := o2) (fun l2515 f w => ∃ (j : Nat → Value) (A2516 : Option Addr) (c2517 : Nat), f = updL j [(1, vI a1), (6, vS A1597 l1596.length c1598), (7, vS A1600 l1599.length c1601), (8, vP b24 0), (9, vI x1602), (10, vP b1989 0), (13, vS A2516 l2515.length c2517)] ∧ Inv M w [.row kAsk 51 A1597 l1596.length c1598 l1596, .row kSpot 53 A1600 l1599.length c1601 l1599, .blk b24 61 [vI ((idx a0.Txns a1).Proc), vI ((idx a0.Txns a1).Status), vI ((idx a0.Txns a1).From), vI ((idx a0.Txns a1).To), vS (some ⟨b1983, q1984, none⟩) (((idx a0.Txns a1).Ops).length) c21], .blk b1989 63 [vI ((idx ((idx a0.Txns a1).Ops) x1602).Kind), vI ((idx ((idx a0.Txns a1).Ops) x1602).Key), vI ((idx ((idx a0.Txns a1).Ops) x1602).Arg), vB ((idx ((idx a0.Txns a1).Ops) x1602).Got), vS A1985 (((idx ((idx a0.Txns a1).Ops) x1602).Vals).length) c1986], .row (tInt .i64) 2 A2516 l2515.length c2517 l2515]) (fun l2515 => assizeref09zof.j6 a0 a1 l1596 l1599 x1602 l2515) ?_ (fun hJ2518 => ?_)
            · clear H hI
              rintro l2515 _ _ ⟨_, A2516, c2517, rfl, hI⟩ H
              refine r_in (bg 0 [.p, .p, .p, .p, .l 0 1, .p, .p] (gA (hI.grp 3 rfl)) (oe 7 rfl ?_))
              refine e_partsS 42 51 1 _ _ _ #[vI a1, vI x1602, vI ((idx ((idx a0.Txns a1).Ops) x1602).Key), vS A2516 l2515.length c2517] [vI a1, vI x1602, vI ((idx ((idx a0.Txns a1).Ops) x1602).Key), vS A2516 l2515.length c2517] rfl rfl rfl rfl (by kernel_rfl) (by kernel_rfl) (by kernel_rfl) (by kernel_rfl) hI ?_
              clear hI
              intro b2519 _ hs2520 hI
              replace H := must_some H
              obtain ⟨g2521, H⟩ := H
              refine oe 8 rfl ?_
              refine e_append kAsk 42 0 51 _ _ _ _ A1597 l1596.length c1598 l1596 ([(⟨a1, x1602, (idx ((idx a0.Txns a1).Ops) x1602).Key, l2515⟩ : Ask)] : List Ask) b2519 0 1 1 [vI a1, vI x1602, vI ((idx ((idx a0.Txns a1).Ops) x1602).Key), vS A2516 l2515.length c2517] 0 [4] [1, 2, 3, 5] [.row (tInt .i64) 2 A2516 l2515.length c2517 l2515] [.row kSpot 53 A1600 l1599.length c1601 l1599, .blk b24 61 [vI ((idx a0.Txns a1).Proc), vI ((idx a0.Txns a1).Status), vI ((idx a0.Txns a1).From), vI ((idx a0.Txns a1).To), vS (some ⟨b1983, q1984, none⟩) (((idx a0.Txns a1).Ops).length) c21], .blk b1989 63 [vI ((idx ((idx a0.Txns a1).Ops) x1602).Kind), vI ((idx ((idx a0.Txns a1).Ops) x1602).Key), vI ((idx ((idx a0.Txns a1).Ops) x1602).Arg), vB ((idx ((idx a0.Txns a1).Ops) x1602).Got), vS A1985 (((idx ((idx a0.Txns a1).Ops) x1602).Vals).length) c1986], .blk b2519 51 [vI a1, vI x1602, vI ((idx ((idx a0.Txns a1).Ops) x1602).Key), vS A2516 l2515.length c2517]] rfl (by kernel_rfl) (by kernel_rfl) rfl rfl rfl rfl rfl (by kernel_rfl) hI (by decide) rfl rfl rfl (hI.grp 5 rfl) g2521 (mks_cons (mk_iso (g := fun g : Ask => (g.Txn, g.Place, g.Key, g.Base)) (x := (⟨a1, x1602, (idx ((idx a0.Txns a1).Ops) x1602).Key, l2515⟩ : Ask)) (mk_pair (mk_flat (k := (tInt .i64)) a1 [vI a1] rfl) (mk_pair (mk_flat (k := (tInt .i64)) x1602 [vI x1602] rfl) (mk_pair (mk_flat (k := (tInt .i64)) ((idx ((idx a0.Txns a1).Ops) x1602).Key) [vI ((idx ((idx a0.Txns a1).Ops) x1602).Key)] rfl) mk_row)))) mks_nil) ?_
              clear hI
              intro A2522 c2523 _ hI
              replace hI := hI.pick (L' := [.row kAsk 51 A2522 ((l1596 ++ ([(⟨a1, x1602, (idx ((idx a0.Txns a1).Ops) x1602).Key, l2515⟩ : Ask)] : List Ask)).length) c2523 (l1596 ++ ([(⟨a1, x1602, (idx ((idx a0.Txns a1).Ops) x1602).Key, l2515⟩ : Ask)] : List Ask)), .row kSpot 53 A1600 l1599.length c1601 l1599, .blk b24 61 [vI ((idx a0.Txns a1).Proc), vI ((idx a0.Txns a1).Status), vI ((idx a0.Txns a1).From), vI ((idx a0.Txns a1).To), vS (some ⟨b1983, q1984, none⟩) (((idx a0.Txns a1).Ops).length) c21], .blk b1989 63 [vI ((idx ((idx a0.Txns a1).Ops) x1602).Kind), vI ((idx ((idx a0.Txns a1).Ops) x1602).Key), vI ((idx ((idx a0.Txns a1).Ops) x1602).Arg), vB ((idx ((idx a0.Txns a1).Ops) x1602).Got), vS A1985 (((idx ((idx a0.Txns a1).Ops) x1602).Vals).length) c1986]]) [0, 1, 2, 3] (by decide) rfl
              refine bp 9 1 (ro (go_inBlock ?_))
              replace H := out_some H
              obtain ⟨_, H, he2⟩ := H
              have he := (hout2 _ he2).symm
              subst he
              exact hJ1967 (l1596 ++ ([(⟨a1, x1602, (idx ((idx a0.Txns a1).Ops) x1602).Key, l2515⟩ : Ask)] : List Ask), l1599) _ _ ⟨_, A2522, c2523, A1600, c1601, at_, hI.pick [0, 1, 2] (by decide) rfl⟩ H
            · refine go_seq (rp 3 ?_)
              replace H := cond_some H
              rcases H with ⟨hc2524, H⟩ | ⟨hc2524, H⟩
              · refine gt hc2524 (go_seq ?_)
                replace H := bind_some H
                obtain ⟨y2531, hy2532, H⟩ := H
                replace H := bind_some H
                obtain ⟨y2533, hy2534, H⟩ := H
                refine go_held (fun w => Inv M w [.row (tInt .i64) 2 A2499 ((([] : List Int) ++ ((idx ((idx a0.Txns a1).Ops) x1602).Vals)).length) c2500 (([] : List Int) ++ ((idx ((idx a0.Txns a1).Ops) x1602).Vals)), .row kAsk 51 A1597 l1596.length c1598 l1596, .row kSpot 53 A1600 l1599.length c1601 l1599, .blk b24 61 [vI ((idx a0.Txns a1).Proc), vI ((idx a0.Txns a1).Status), vI ((idx a0.Txns a1).From), vI ((idx a0.Txns a1).To), vS (some ⟨b1983, q1984, none⟩) (((idx a0.Txns a1).Ops).length) c21], .blk b1989 63 [vI ((idx ((idx a0.Txns a1).Ops) x1602).Kind), vI ((idx ((idx a0.Txns a1).Ops) x1602).Key), vI ((idx ((idx a0.Txns a1).Ops) x1602).Arg), vB ((idx ((idx a0.Txns a1).Ops) x1602).Got), vS A1985 (((idx ((idx a0.Txns a1).Ops) x1602).Vals).length) c1986], .row (tInt .i64) 2 A2363 l2362.length c2364 l2362]) (by kernel_rfl) ?_
                replace hI := hI.drew'
                refine hg (n := 7) [(0, .p), (1, .l 0 0), (3, .p), (4, .l 0 4), (5, .p)] (fun _ hS => (gA (hS.grp 4 rfl))) hI ?_
                refine ho (n := 6) 2 rfl (ec (enter58 _) (assizeref05zOf_calls ((idx ((idx a0.Txns a1).Ops) x1602).Kind) (memOf _) _ (Inv.start _) _ hy2532) ?_)
                rintro _ _ ⟨rfl, hI'⟩
                replace hI := hI.call0 hI'
                clear hI'
                refine ⟨_, rfl, ?_⟩
                refine ⟨hI, ?_⟩
                refine ho (n := 5) 6 rfl (ec (enter25 _) (assizeref08zBefore_calls y2531 A1985 c1986 ((idx ((idx a0.Txns a1).Ops) x1602).Vals) A2363 c2364 l2362 (memOf _) _ (Inv.start _) (hI.rd hr1987) hl1988 (hI.row 5 rfl) (hI.rowle 5 rfl) _ hy2534) ?_)
                rintro _ _ ⟨A2535, c2536, rfl, hI'⟩
                replace hI := hI.call0 hI'
                clear hI'
                refine ⟨_, rfl, ?_⟩
                refine ⟨(hI.pk [0, 1, 2, 3, 4, 5]), ?_⟩
                refine hg (n := 0) [(7, .p), (8, .p), (9, .p), (10, .p), (11, .p)] (fun _ hS => gO) (hI.pk [0, 1, 2, 3, 4, 5]) (hd (go_seq (go_seq (rp 2 ?_))))
                replace H := cond_some H
                rcases H with ⟨hc2543, H⟩ | ⟨hc2543, H⟩
                · refine gt hc2543 (go_seq (r_in (bp 0 4 (oe 4 rfl ?_))))
                  refine e_partsS 43 53 1 _ _ _ #[vI a1, vI x1602] [vI a1, vI x1602] rfl rfl rfl rfl (by kernel_rfl) (by kernel_rfl) (by kernel_rfl) (by kernel_rfl) hI ?_
                  clear hI
                  intro b2549 _ hs2550 hI
                  replace H := must_some H
                  obtain ⟨g2551, H⟩ := H
                  refine oe 5 rfl ?_
                  refine e_append kSpot 43 0 53 _ _ _ _ A1600 l1599.length c1601 l1599 ([(⟨a1, x1602⟩ : Spot)] : List Spot) b2549 0 1 1 [vI a1, vI x1602] 2 [] [0, 1, 3, 4, 5, 6, 7] [] [.row (tInt .i64) 2 A2499 ((([] : List Int) ++ ((idx ((idx a0.Txns a1).Ops) x1602).Vals)).length) c2500 (([] : List Int) ++ ((idx ((idx a0.Txns a1).Ops) x1602).Vals)), .row kAsk 51 A1597 l1596.length c1598 l1596, .blk b24 61 [vI ((idx a0.Txns a1).Proc), vI ((idx a0.Txns a1).Status), vI ((idx a0.Txns a1).From), vI ((idx a0.Txns a1).To), vS (some ⟨b1983, q1984, none⟩) (((idx a0.Txns a1).Ops).length) c21], .blk b1989 63 [vI ((idx ((idx a0.Txns a1).Ops) x1602).Kind), vI ((idx ((idx a0.Txns a1).Ops) x1602).Key), vI ((idx ((idx a0.Txns a1).Ops) x1602).Arg), vB ((idx ((idx a0.Txns a1).Ops) x1602).Got), vS A1985 (((idx ((idx a0.Txns a1).Ops) x1602).Vals).length) c1986], .row (tInt .i64) 2 A2363 l2362.length c2364 l2362, .row (tInt .i64) 2 A2535 y2533.1.length c2536 y2533.1, .blk b2549 53 [vI a1, vI x1602]] rfl (by kernel_rfl) (by kernel_rfl) rfl rfl rfl rfl rfl (by kernel_rfl) hI (by decide) rfl rfl rfl (hI.grp 7 rfl) g2551 (mks_cons (mk_flat (k := kSpot) (⟨a1, x1602⟩ : Spot) [vI a1, vI x1602] rfl) mks_nil) ?_
                  clear hI
                  intro A2552 c2553 _ hI
                  replace hI := hI.pick (L' := [.row kSpot 53 A2552 ((l1599 ++ ([(⟨a1, x1602⟩ : Spot)] : List Spot)).length) c2553 (l1599 ++ ([(⟨a1, x1602⟩ : Spot)] : List Spot)), .row (tInt .i64) 2 A2499 ((([] : List Int) ++ ((idx ((idx a0.Txns a1).Ops) x1602).Vals)).length) c2500 (([] : List Int) ++ ((idx ((idx a0.Txns a1).Ops) x1602).Vals)), .row kAsk 51 A1597 l1596.length c1598 l1596, .blk b24 61 [vI ((idx a0.Txns a1).Proc), vI ((idx a0.Txns a1).Status), vI ((idx a0.Txns a1).From), vI ((idx a0.Txns a1).To), vS (some ⟨b1983, q1984, none⟩) (((idx a0.Txns a1).Ops).length) c21], .blk b1989 63 [vI ((idx ((idx a0.Txns a1).Ops) x1602).Kind), vI ((idx ((idx a0.Txns a1).Ops) x1602).Key), vI ((idx ((idx a0.Txns a1).Ops) x1602).Arg), vB ((idx ((idx a0.Txns a1).Ops) x1602).Got), vS A1985 (((idx ((idx a0.Txns a1).Ops) x1602).Vals).length) c1986], .row (tInt .i64) 2 A2363 l2362.length c2364 l2362, .row (tInt .i64) 2 A2535 y2533.1.length c2536 y2533.1]) [0, 1, 2, 3, 4, 5, 6] (by decide) rfl
                  refine bp 6 1 (ro ?_)
                  refine go_exit rfl ?_
                  replace H := out_some H
                  obtain ⟨_, H, he2⟩ := H
                  have he := (hout2 _ he2).symm
                  subst he
                  exact hJ1967 (l1596, l1599 ++ ([(⟨a1, x1602⟩ : Spot)] : List Spot)) _ _ ⟨_, A1597, c1598, A2552, c2553, at_, hI.pick [2, 0, 3] (by decide) rfl⟩ H
                · refine ge hc2543 (go_skip (go_seq (go_seq (rg [.p, .l 0 0, .p] (gA (hI.grp 4 rfl)) ?_))))
                  replace H := cond_some H
                  rcases H with ⟨hc2555, H⟩ | ⟨hc2555, H⟩
                  · refine gt hc2555 ?_
                    refine go_exit rfl ?_
                    replace H := out_some H
                    obtain ⟨_, H, he2⟩ := H
                    have he := (hout2 _ he2).symm
                    subst he
                    exact hJ1967 (l1596, l1599) _ _ ⟨_, A1597, c1598, A1600, c1601, at_, hI.pick [1, 2, 3] (by decide) rfl⟩ H
                  · refine ge hc2555 (go_skip (rp 2 ?_))
                    exact hJ2518 y2533.1 _ _ ⟨_, A2535, c2536, at_, hI.pick [1, 2, 3, 4, 6] (by decide) rfl⟩ H
              · refine ge hc2524 (go_skip ?_)
                exact hJ2518 (([] : List Int) ++ ((idx ((idx a0.Txns a1).Ops) x1602).Vals)) _ _ ⟨_, A2499, c2500, at_, hI.pick [1, 2, 3, 4, 0] (by decide) rfl⟩ H
    · refine ge hc1604 ?_
      refine go_exit rfl ?_
      refine go_seq (rp 4 ?_)
      replace H := out_some H
      obtain ⟨_, H, he1⟩ := H
      have he := (hout1 _ he1).symm
      subst he
      replace H := Option.some.inj H
      subst H
      exact gr Try.func44 ⟨A1597, c1598, A1600, c1601, rfl, hI.pick [0, 1] (by decide) rfl⟩

/-! ### assizeref09zLook -/
theorem enter29 (a : Array Value) : Sem.pureRun Try.prog (callFunc 29 a) = some (.enter 29 a) := by kernel_rfl
theorem assizeref09zLook_calls (a0 : History) (A0z0 : Option Addr) (c0z0 : Nat) (A0z1 : Option Addr) (c0z1 : Nat) (a1 : Int) (M : Mem) (w : World) (hI : Inv M w []) (hr0z0 : rdS tStr M.blk A0z0 a0.Keys) (hl0z0 : a0.Keys.length ≤ c0z0) (hr0z1 : rdS kTxn M.blk A0z1 a0.Txns) (hl0z1 : a0.Txns.length ≤ c0z1) (r : List Ask × List Spot × Int) (H : assizeref09zLook a0 a1 = some r) :
    Calls Try.prog 29 #[.agg #[vS A0z0 a0.Keys.length c0z0, vS A0z1 a0.Txns.length c0z1], vI a1] w fun e w' => ∃ (A33 : Option Addr), ∃ (c34 : Nat), ∃ (A35 : Option Addr), ∃ (c36 : Nat), e = .returned (.tuple #[vS A33 r.1.length c34, vS A35 r.2.1.length c36, vI r.2.2]) ∧ Inv M w' [.row kAsk 51 A33 r.1.length c34 r.1, .row kSpot 53 A35 r.2.1.length c36 r.2.1] := by
  refine cg Try.func29 ?_
  intro cs
  unfold assizeref09zLook at H
  refine go_seq (r_in (oe 0 rfl ?_))
  refine e_box 40 _ (.agg #[vS A0z0 a0.Keys.length c0z0, vS A0z1 a0.Txns.length c0z1]) [vS A0z0 a0.Keys.length c0z0, vS A0z1 a0.Txns.length c0z1] rfl (by kernel_rfl) rfl hI ?_
  clear hI
  intro b2 _ hI
  refine bp 1 3 (ro (go_seq ?_))
  refine go_seq_join (o := r) (fun b13 f w => ∃ (j : Nat → Value), f = updL j [(1, vI a1), (2, vP b2 0), (22, vB b13)] ∧ Inv M w [.blk b2 40 [vS A0z0 a0.Keys.length c0z0, vS A0z1 a0.Txns.length c0z1]]) (fun b13 => assizeref09zLook.j1 a0 a1 b13) ?_ (fun hJ14 => ?_)
  · clear H hI
    rintro b13 _ _ ⟨_, rfl, hI⟩ H
    replace H := cond_some H
    rcases H with ⟨hc15, H⟩ | ⟨hc15, H⟩
    · refine gt hc15 (go_seq (rp 3 ?_))
      replace H := Option.some.inj H
      subst H
      exact gr Try.func29 ⟨none, 0, none, 0, rfl, ((hI.nilrow kAsk 51).nilrow kSpot 53).pick [1, 2] (by decide) rfl⟩
    · refine ge hc15 (go_skip (go_seq (r_in (bg 0 [.l 0 0, .p] (gA (hI.grp 0 rfl)) ?_))))
      replace H := bind_some H
      obtain ⟨y22, hy23, H⟩ := H
      refine oe 2 rfl ?_
      refine ec (enter44 _) (assizeref09zof_calls a0 A0z0 c0z0 A0z1 c0z1 a1 (memOf _) _ (Inv.start _) (hI.rd hr0z0) hl0z0 (hI.rd hr0z1) hl0z1 _ hy23) ?_
      rintro _ _ ⟨A24, c25, A26, c27, rfl, hI'⟩
      replace hI := hI.call0 hI'
      clear hI'
      refine ⟨_, rfl, ?_⟩
      refine bp 3 5 (ro (go_seq (rp 5 ?_)))
      replace H := Option.some.inj H
      subst H
      exact gr Try.func29 ⟨A24, c25, A26, c27, rfl, hI.pick [1, 2] (by decide) rfl⟩
  · refine r_in (bg 0 [.l 0 0] (gA (hI.grp 0 rfl)) ?_)
    replace H := bind_some H
    obtain ⟨y28, hy29, H⟩ := H
    refine oe 1 rfl ?_
    refine ec (enter43 _) (assizeref05zCheck_calls a0 A0z0 c0z0 A0z1 c0z1 (memOf _) _ (Inv.start _) (hI.rd hr0z0) hl0z0 (hI.rd hr0z1) hl0z1 _ hy29) ?_
    rintro _ _ ⟨rfl, hI'⟩
    replace hI := hI.call0 hI'
    clear hI'
    refine ⟨_, rfl, ?_⟩
    replace H := cond_some H
    rcases H with ⟨hc30, H⟩ | ⟨hc30, H⟩
    · refine bx 2 [.p, .c true, .p, .p, .p, .p, .p, .p, .p, .p, .p, .p] gO _ (bZ (bndEq hc30)) (ro ?_)
      exact hJ14 true _ _ ⟨_, at_, hI⟩ H
    · replace H := cond_some H
      rcases H with ⟨hc31, H⟩ | ⟨hc31, H⟩
      · refine bx 2 [.p, .c false, .p, .p, .p, .c true, .p, .p, .p, .p, .p, .p] gO _ (bC (bndEq hc30) (bZ (bndEq hc31))) (ro ?_)
        exact hJ14 true _ _ ⟨_, at_, hI⟩ H
      · refine bx 2 [.p, .c false, .p, .p, .p, .c false, .p, .p, .l 0 1, .p, .p, .p] (gA (hI.grp 0 rfl)) _ (bC (bndEq hc30) (bZ (bndEq hc31))) (ro ?_)
        exact hJ14 (decide (a1 ≥ (a0.Txns.length : Int))) _ _ ⟨_, at_, hI⟩ H

/-! ### assizeref03zSameVals -/
theorem enter18 (a : Array Value) : Sem.pureRun Try.prog (callFunc 18 a) = some (.enter 18 a) := by kernel_rfl
theorem assizeref03zSameVals_calls (A0z : Option Addr) (c0z : Nat) (a0 : List Int) (A1z : Option Addr) (c1z : Nat) (a1 : List Int) (M : Mem) (w : World) (hI : Inv M w []) (hr0z : rdS (tInt .i64) M.blk A0z a0) (hl0z : a0.length ≤ c0z) (hr1z : rdS (tInt .i64) M.blk A1z a1) (hl1z : a1.length ≤ c1z) (r : Bool) (H : assizeref03zSameVals a0 a1 = some r) :
    Calls Try.prog 18 #[vS A0z a0.length c0z, vS A1z a1.length c1z] w fun e w' => e = .returned (vB r) ∧ Inv M w' [] := by
  refine cg Try.func18 ?_
  intro cs
  unfold assizeref03zSameVals at H
  refine go_seq (rp 1 (go_seq (go_seq (rp 5 ?_))))
  replace H := cond_some H
  rcases H with ⟨hc2, H⟩ | ⟨hc2, H⟩
  · refine gt hc2 (go_seq (rp 1 ?_))
    replace H := Option.some.inj H
    subst H
    exact gr Try.func18 ⟨rfl, hI⟩
  · refine ge hc2 (go_skip (go_seq (go_seq (rp 1 (go_block ?_)))))
    refine go_iter (assizeref03zSameVals.s1 a0 a1) (fun x84 f w => ∃ (j : Nat → Value), f = updL j [(0, vS A0z a0.length c0z), (1, vS A1z a1.length c1z), (5, vI x84)] ∧ Inv M w []) H ⟨_, at_, hI⟩ ?_
    clear H hI
    rintro x84 _ _ o1 H ⟨_, rfl, hI⟩ hin1 hout1
    refine go_seq (go_seq (rp 4 ?_))
    replace H := cond_some H
    rcases H with ⟨hc86, H⟩ | ⟨hc86, H⟩
    · refine gt hc86 (go_skip (go_seq (go_block (go_seq ?_))))
      replace H := must_some H
      obtain ⟨g107, H⟩ := H
      obtain ⟨b108, q109, rfl, _⟩ := rdS.fopen hr0z rfl g107
      replace H := must_some H
      obtain ⟨g110, H⟩ := H
      obtain ⟨b111, q112, rfl, _⟩ := rdS.fopen hr1z rfl g110
      refine dx [.p, .p, .x, .l 0 0, .p, .p, .x, .l 1 0, .p] (gB (hI.lies (rdS.flook hr0z rfl g107)) (hI.lies (rdS.flook hr1z rfl g110))) _ (bC g107 (bZ g110)) hI ?_
      clear hI
      intro _ hI
      replace H := cond_some H
      rcases H with ⟨hc113, H⟩ | ⟨hc113, H⟩
      · refine gt hc113 (go_seq (rp 1 ?_))
        replace H := out_some H
        obtain ⟨_, H, he1⟩ := H
        have he := (hout1 _ he1).symm
        subst he
        replace H := Option.some.inj H
        subst H
        exact gr Try.func18 ⟨rfl, hI⟩
      · refine ge hc113 (go_skip (go_inBlock (rp 3 ?_)))
        exact hin1 _ (Option.some.inj H).symm _ _ ⟨_, at_, hI⟩
    · refine ge hc86 ?_
      refine go_exit rfl ?_
      refine go_seq (rp 1 ?_)
      replace H := out_some H
      obtain ⟨_, H, he1⟩ := H
      have he := (hout1 _ he1).symm
      subst he
      replace H := Option.some.inj H
      subst H
      exact gr Try.func18 ⟨rfl, hI⟩

/-! ### assizeref09zSameAsks -/
theorem enter30 (a : Array Value) : Sem.pureRun Try.prog (callFunc 30 a) = some (.enter 30 a) := by kernel_rfl
theorem assizeref09zSameAsks_calls (A0z : Option Addr) (c0z : Nat) (a0 : List Ask) (A1z : Option Addr) (c1z : Nat) (a1 : List Ask) (M : Mem) (w : World) (hI : Inv M w []) (hr0z : rdS kAsk M.blk A0z a0) (hl0z : a0.length ≤ c0z) (hr1z : rdS kAsk M.blk A1z a1) (hl1z : a1.length ≤ c1z) (r : Bool) (H : assizeref09zSameAsks a0 a1 = some r) :
    Calls Try.prog 30 #[vS A0z a0.length c0z, vS A1z a1.length c1z] w fun e w' => e = .returned (vB r) ∧ Inv M w' [] := by
  refine cg Try.func30 ?_
  intro cs
  unfold assizeref09zSameAsks at H
  refine go_seq (rp 1 (go_seq (go_seq (rp 5 ?_))))
  replace H := cond_some H
  rcases H with ⟨hc2, H⟩ | ⟨hc2, H⟩
  · refine gt hc2 (go_seq (rp 1 ?_))
    replace H := Option.some.inj H
    subst H
    exact gr Try.func30 ⟨rfl, hI⟩
  · refine ge hc2 (go_skip (go_seq (go_seq (rp 1 (go_block ?_)))))
    refine go_iter (assizeref09zSameAsks.s1 a0 a1) (fun x580 f w => ∃ (j : Nat → Value), f = updL j [(0, vS A0z a0.length c0z), (1, vS A1z a1.length c1z), (5, vI x580)] ∧ Inv M w []) H ⟨_, at_, hI⟩ ?_
    clear H hI
    rintro x580 _ _ o1 H ⟨_, rfl, hI⟩ hin1 hout1
    refine go_seq (go_seq (rp 4 ?_))
    replace H := cond_some H
    rcases H with ⟨hc582, H⟩ | ⟨hc582, H⟩
    · refine gt hc582 (go_skip (go_seq (go_block ?_)))
      refine go_seq_join (o := o1) (fun b788 f w => ∃ (j : Nat → Value), f = updL j [(0, vS A0z a0.length c0z), (1, vS A1z a1.length c1z), (5, vI x580), (67, vB b788)] ∧ Inv M w []) (fun b788 => assizeref09zSameAsks.j2 x580 b788) ?_ (fun hJ789 => ?_)
      · clear H hI
        rintro b788 _ _ ⟨_, rfl, hI⟩ H
        replace H := cond_some H
        rcases H with ⟨hc790, H⟩ | ⟨hc790, H⟩
        · refine gt hc790 (go_seq (rp 1 ?_))
          replace H := out_some H
          obtain ⟨_, H, he1⟩ := H
          have he := (hout1 _ he1).symm
          subst he
          replace H := Option.some.inj H
          subst H
          exact gr Try.func30 ⟨rfl, hI⟩
        · refine ge hc790 (go_skip (go_inBlock (rp 3 ?_)))
          exact hin1 _ (Option.some.inj H).symm _ _ ⟨_, at_, hI⟩
      · replace H := must_some H
        obtain ⟨g791, H⟩ := H
        obtain ⟨b795, q796, rfl, cs794, hk793, hg792⟩ := rdS.open hr0z rfl g791
        obtain ⟨_, _, rfl, rfl, ⟨_, _, rfl, rfl, ⟨_, _, rfl, rfl, ⟨A797, c798, rfl, hl800, hr799⟩⟩⟩⟩ := hk793
        replace H := must_some H
        obtain ⟨g801, H⟩ := H
        obtain ⟨b805, q806, rfl, cs804, hk803, hg802⟩ := rdS.open hr1z rfl g801
        obtain ⟨_, _, rfl, rfl, ⟨_, _, rfl, rfl, ⟨_, _, rfl, rfl, ⟨A807, c808, rfl, hl810, hr809⟩⟩⟩⟩ := hk803
        replace H := cond_some H
        rcases H with ⟨hc811, H⟩ | ⟨hc811, H⟩
        · refine dx [.p, .p, .x, .p, .l 0 0, .p, .p, .x, .p, .l 1 0, .p, .c true, .p, .p, .p, .p, .p, .p, .p, .p, .p, .p, .p, .p, .p, .p, .p, .p, .p, .p, .p, .p, .p, .p, .p, .p, .p, .p, .p, .p, .p, .p, .p, .p, .p, .p, .p, .p, .p, .p, .p] (gB (hI.lies hg792) (hI.lies hg802)) _ (bC g791 (bC g801 (bZ (bndEq hc811)))) hI ?_
          clear hI
          intro _ hI
          exact hJ789 true _ _ ⟨_, at_, hI⟩ H
        · obtain ⟨cs814, hk813, hg812⟩ := rdS.look hr0z rfl g791
          obtain ⟨_, _, rfl, rfl, ⟨_, _, rfl, rfl, ⟨_, _, rfl, rfl, ⟨A815, c816, rfl, hl818, hr817⟩⟩⟩⟩ := hk813
          obtain ⟨cs821, hk820, hg819⟩ := rdS.look hr1z rfl g801
          obtain ⟨_, _, rfl, rfl, ⟨_, _, rfl, rfl, ⟨_, _, rfl, rfl, ⟨A822, c823, rfl, hl825, hr824⟩⟩⟩⟩ := hk820
          replace H := cond_some H
          rcases H with ⟨hc826, H⟩ | ⟨hc826, H⟩
          · refine dx [.p, .p, .x, .p, .l 0 0, .p, .p, .x, .p, .l 1 0, .p, .c false, .p, .p, .x, .p, .l 2 1, .p, .p, .x, .p, .l 3 1, .p, .p, .c true, .p, .p, .p, .p, .p, .p, .p, .p, .p, .p, .p, .p, .p, .p, .p, .p, .p, .p, .p, .p, .p, .p, .p, .p, .p, .p] (gD (hI.lies hg792) (hI.lies hg802) (hI.lies hg812) (hI.lies hg819)) _ (bC g791 (bC g801 (bC (bndEq hc811) (bC g791 (bC g801 (bZ (bndEq hc826))))))) hI ?_
            clear hI
            intro _ hI
            exact hJ789 true _ _ ⟨_, at_, hI⟩ H
          · obtain ⟨cs829, hk828, hg827⟩ := rdS.look hr0z rfl g791
            obtain ⟨_, _, rfl, rfl, ⟨_, _, rfl, rfl, ⟨_, _, rfl, rfl, ⟨A830, c831, rfl, hl833, hr832⟩⟩⟩⟩ := hk828
            obtain ⟨cs836, hk835, hg834⟩ := rdS.look hr1z rfl g801
            obtain ⟨_, _, rfl, rfl, ⟨_, _, rfl, rfl, ⟨_, _, rfl, rfl, ⟨A837, c838, rfl, hl840, hr839⟩⟩⟩⟩ := hk835
            replace H := cond_some H
            rcases H with ⟨hc841, H⟩ | ⟨hc841, H⟩
            · refine dx [.p, .p, .x, .p, .l 0 0, .p, .p, .x, .p, .l 1 0, .p, .c false, .p, .p, .x, .p, .l 2 1, .p, .p, .x, .p, .l 3 1, .p, .p, .c false, .p, .p, .x, .p, .l 4 2, .p, .p, .x, .p, .l 5 2, .p, .p, .c true, .p, .p, .p, .p, .p, .p, .p, .p, .p, .p, .p, .p, .p] (gK (hI.lies hg792) (gK (hI.lies hg802) (gD (hI.lies hg812) (hI.lies hg819) (hI.lies hg827) (hI.lies hg834)))) _ (bC g791 (bC g801 (bC (bndEq hc811) (bC g791 (bC g801 (bC (bndEq hc826) (bC g791 (bC g801 (bZ (bndEq hc841)))))))))) hI ?_
              clear hI
              intro _ hI
              exact hJ789 true _ _ ⟨_, at_, hI⟩ H
            · obtain ⟨cs844, hk843, hg842⟩ := rdS.look hr0z rfl g791
              obtain ⟨_, _, rfl, rfl, ⟨_, _, rfl, rfl, ⟨_, _, rfl, rfl, ⟨A845, c846, rfl, hl848, hr847⟩⟩⟩⟩ := hk843
              obtain ⟨cs851, hk850, hg849⟩ := rdS.look hr1z rfl g801
              obtain ⟨_, _, rfl, rfl, ⟨_, _, rfl, rfl, ⟨_, _, rfl, rfl, ⟨A852, c853, rfl, hl855, hr854⟩⟩⟩⟩ := hk850
              replace H := bind_some H
              obtain ⟨y856, hy857, H⟩ := H
              refine go_held (fun w => Inv M w []) (by kernel_rfl) ?_
              replace hI := hI.drew'
              refine hx (n := 3) [(0, .p), (1, .p), (2, .x), (3, .p), (4, .l 0 0), (5, .p), (6, .p), (7, .x), (8, .p), (9, .l 1 0), (10, .p), (11, .c false), (12, .p), (13, .p), (14, .x), (15, .p), (16, .l 2 1), (17, .p), (18, .p), (19, .x), (20, .p), (21, .l 3 1), (22, .p), (23, .p), (24, .c false), (25, .p), (26, .p), (27, .x), (28, .p), (29, .l 4 2), (30, .p), (31, .p), (32, .x), (33, .p), (34, .l 5 2), (35, .p), (36, .p), (37, .c false), (38, .p), (39, .p), (40, .x), (41, .p), (42, .l 6 3), (43, .p), (44, .p), (45, .x), (46, .p), (47, .l 7 3)] (fun _ hS => (gK (hS.lies hg792) (gK (hS.lies hg802) (gK (hS.lies hg812) (gK (hS.lies hg819) (gD (hS.lies hg827) (hS.lies hg834) (hS.lies hg842) (hS.lies hg849))))))) hI _ (bC g791 (bC g801 (bC (bndEq hc811) (bC g791 (bC g801 (bC (bndEq hc826) (bC g791 (bC g801 (bC (bndEq hc841) (bC g791 (bZ g801))))))))))) ?_
              refine ho (n := 2) 48 rfl (ec (enter18 _) (assizeref03zSameVals_calls A845 c846 ((idx a0 x580).Base) A852 c853 ((idx a1 x580).Base) (memOf _) _ (Inv.start _) (hI.rd hr847) hl848 (hI.rd hr854) hl855 _ hy857) ?_)
              rintro _ _ ⟨rfl, hI'⟩
              replace hI := hI.call0 hI'
              clear hI'
              refine ⟨_, rfl, ?_⟩
              refine ⟨hI, ?_⟩
              refine hg (n := 0) [(49, .p), (50, .p)] (fun _ hS => gO) hI (hd ?_)
              exact hJ789 (!y856) _ _ ⟨_, at_, hI⟩ H
    · refine ge hc582 ?_
      refine go_exit rfl ?_
      refine go_seq (rp 1 ?_)
      replace H := out_some H
      obtain ⟨_, H, he1⟩ := H
      have he := (hout1 _ he1).symm
      subst he
      replace H := Option.some.inj H
      subst H
      exact gr Try.func30 ⟨rfl, hI⟩

/-! ### assizeref09zSameSpots -/
theorem enter31 (a : Array Value) : Sem.pureRun Try.prog (callFunc 31 a) = some (.enter 31 a) := by kernel_rfl
theorem assizeref09zSameSpots_calls (A0z : Option Addr) (c0z : Nat) (a0 : List Spot) (A1z : Option Addr) (c1z : Nat) (a1 : List Spot) (M : Mem) (w : World) (hI : Inv M w []) (hr0z : rdS kSpot M.blk A0z a0) (hl0z : a0.length ≤ c0z) (hr1z : rdS kSpot M.blk A1z a1) (hl1z : a1.length ≤ c1z) (r : Bool) (H : assizeref09zSameSpots a0 a1 = some r) :
    Calls Try.prog 31 #[vS A0z a0.length c0z, vS A1z a1.length c1z] w fun e w' => e = .returned (vB r) ∧ Inv M w' [] := by
  refine cg Try.func31 ?_
  intro cs
  unfold assizeref09zSameSpots at H
  refine go_seq (rp 1 (go_seq (go_seq (rp 5 ?_))))
  replace H := cond_some H
  rcases H with ⟨hc2, H⟩ | ⟨hc2, H⟩
  · refine gt hc2 (go_seq (rp 1 ?_))
    replace H := Option.some.inj H
    subst H
    exact gr Try.func31 ⟨rfl, hI⟩
  · refine ge hc2 (go_skip (go_seq (go_seq (rp 1 (go_block ?_)))))
    refine go_iter (assizeref09zSameSpots.s1 a0 a1) (fun x84 f w => ∃ (j : Nat → Value), f = updL j [(0, vS A0z a0.length c0z), (1, vS A1z a1.length c1z), (5, vI x84)] ∧ Inv M w []) H ⟨_, at_, hI⟩ ?_
    clear H hI
    rintro x84 _ _ o1 H ⟨_, rfl, hI⟩ hin1 hout1
    refine go_seq (go_seq (rp 4 ?_))
    replace H := cond_some H
    rcases H with ⟨hc86, H⟩ | ⟨hc86, H⟩
    · refine gt hc86 (go_skip (go_seq (go_block (go_seq ?_))))
      replace H := must_some H
      obtain ⟨g107, H⟩ := H
      obtain ⟨b108, q109, rfl, _⟩ := rdS.fopen hr0z rfl g107
      replace H := must_some H
      obtain ⟨g110, H⟩ := H
      obtain ⟨b111, q112, rfl, _⟩ := rdS.fopen hr1z rfl g110
      refine dx [.p, .p, .x, .l 0 0, .p, .p, .x, .l 1 0, .x] (gB (hI.lies (rdS.flook hr0z rfl g107)) (hI.lies (rdS.flook hr1z rfl g110))) _ (bC g107 (bZ g110)) hI ?_
      clear hI
      intro _ hI
      replace H := cond_some H
      rcases H with ⟨hc113, H⟩ | ⟨hc113, H⟩
      · refine gt hc113 (go_seq (rp 1 ?_))
        replace H := out_some H
        obtain ⟨_, H, he1⟩ := H
        have he := (hout1 _ he1).symm
        subst he
        replace H := Option.some.inj H
        subst H
        exact gr Try.func31 ⟨rfl, hI⟩
      · refine ge hc113 (go_skip (go_inBlock (rp 3 ?_)))
        exact hin1 _ (Option.some.inj H).symm _ _ ⟨_, at_, hI⟩
    · refine ge hc86 ?_
      refine go_exit rfl ?_
      refine go_seq (rp 1 ?_)
      replace H := out_some H
      obtain ⟨_, H, he1⟩ := H
      have he := (hout1 _ he1).symm
      subst he
      replace H := Option.some.inj H
      subst H
      exact gr Try.func31 ⟨rfl, hI⟩

/-! ### assizeref05zSame -/
theorem enter32 (a : Array Value) : Sem.pureRun Try.prog (callFunc 32 a) = some (.enter 32 a) := by kernel_rfl
theorem assizeref05zSame_calls (a0 : History) (A0z0 : Option Addr) (c0z0 : Nat) (A0z1 : Option Addr) (c0z1 : Nat) (a1 : History) (A1z0 : Option Addr) (c1z0 : Nat) (A1z1 : Option Addr) (c1z1 : Nat) (M : Mem) (w : World) (hI : Inv M w []) (hr0z0 : rdS tStr M.blk A0z0 a0.Keys) (hl0z0 : a0.Keys.length ≤ c0z0) (hr0z1 : rdS kTxn M.blk A0z1 a0.Txns) (hl0z1 : a0.Txns.length ≤ c0z1) (hr1z0 : rdS tStr M.blk A1z0 a1.Keys) (hl1z0 : a1.Keys.length ≤ c1z0) (hr1z1 : rdS kTxn M.blk A1z1 a1.Txns) (hl1z1 : a1.Txns.length ≤ c1z1) (r : Bool) (H : assizeref05zSame a0 a1 = some r) :
    Calls Try.prog 32 #[.agg #[vS A0z0 a0.Keys.length c0z0, vS A0z1 a0.Txns.length c0z1], .agg #[vS A1z0 a1.Keys.length c1z0, vS A1z1 a1.Txns.length c1z1]] w fun e w' => e = .returned (vB r) ∧ Inv M w' [] := by
  refine cg Try.func32 ?_
  intro cs
  unfold assizeref05zSame at H
  refine go_seq (r_in (oe 0 rfl ?_))
  refine e_box 40 _ (.agg #[vS A0z0 a0.Keys.length c0z0, vS A0z1 a0.Txns.length c0z1]) [vS A0z0 a0.Keys.length c0z0, vS A0z1 a0.Txns.length c0z1] rfl (by kernel_rfl) rfl hI ?_
  clear hI
  intro b3 _ hI
  refine oe 1 rfl ?_
  refine e_box 40 _ (.agg #[vS A1z0 a1.Keys.length c1z0, vS A1z1 a1.Txns.length c1z1]) [vS A1z0 a1.Keys.length c1z0, vS A1z1 a1.Txns.length c1z1] rfl (by kernel_rfl) rfl hI ?_
  clear hI
  intro b4 _ hI
  refine bp 2 1 (ro (go_seq ?_))
  refine go_seq_join (o := r) (fun b9 f w => ∃ (j : Nat → Value), f = updL j [(2, vP b3 0), (3, vP b4 0), (27, vB b9)] ∧ Inv M w [.blk b3 40 [vS A0z0 a0.Keys.length c0z0, vS A0z1 a0.Txns.length c0z1], .blk b4 40 [vS A1z0 a1.Keys.length c1z0, vS A1z1 a1.Txns.length c1z1]]) (fun b9 => assizeref05zSame.j1 a0 a1 b9) ?_ (fun hJ10 => ?_)
  · clear H hI
    rintro b9 _ _ ⟨_, rfl, hI⟩ H
    replace H := cond_some H
    rcases H with ⟨hc11, H⟩ | ⟨hc11, H⟩
    · refine gt hc11 (go_seq (rp 1 ?_))
      replace H := Option.some.inj H
      subst H
      exact gr Try.func32 ⟨rfl, hI.pn⟩
    · refine ge hc11 (go_skip (go_seq (go_seq (rp 1 (go_block ?_)))))
      refine go_iter (assizeref05zSame.s2 a0 a1) (fun x93 f w => ∃ (j : Nat → Value), f = updL j [(2, vP b3 0), (3, vP b4 0), (5, vI x93)] ∧ Inv M w [.blk b3 40 [vS A0z0 a0.Keys.length c0z0, vS A0z1 a0.Txns.length c0z1], .blk b4 40 [vS A1z0 a1.Keys.length c1z0, vS A1z1 a1.Txns.length c1z1]]) H ⟨_, at_, hI⟩ ?_
      clear H hI
      rintro x93 _ _ o1 H ⟨_, rfl, hI⟩ hin1 hout1
      refine go_seq (go_seq (rg [.p, .p, .l 0 0, .p, .p] (gA (hI.grp 0 rfl)) ?_))
      replace H := cond_some H
      rcases H with ⟨hc95, H⟩ | ⟨hc95, H⟩
      · refine gt hc95 (go_skip (go_seq (go_block (go_seq ?_))))
        replace H := must_some H
        obtain ⟨g116, H⟩ := H
        obtain ⟨b117, q118, rfl, _⟩ := rdS.fopen hr0z0 rfl g116
        replace H := must_some H
        obtain ⟨g119, H⟩ := H
        obtain ⟨b120, q121, rfl, _⟩ := rdS.fopen hr1z0 rfl g119
        refine dx [.p, .l 0 0, .p, .x, .l 1 0, .p, .l 2 0, .p, .x, .l 3 0, .p] (gD (hI.grp 0 rfl) (hI.lies (rdS.flook hr0z0 rfl g116)) (hI.grp 1 rfl) (hI.lies (rdS.flook hr1z0 rfl g119))) _ (bC g116 (bZ g119)) hI ?_
        clear hI
        intro _ hI
        replace H := cond_some H
        rcases H with ⟨hc122, H⟩ | ⟨hc122, H⟩
        · refine gt hc122 (go_seq (rp 1 ?_))
          replace H := out_some H
          obtain ⟨_, H, he1⟩ := H
          have he := (hout1 _ he1).symm
          subst he
          replace H := Option.some.inj H
          subst H
          exact gr Try.func32 ⟨rfl, hI.pn⟩
        · refine ge hc122 (go_skip (go_inBlock (rp 3 ?_)))
          exact hin1 _ (Option.some.inj H).symm _ _ ⟨_, at_, hI⟩
      · refine ge hc95 ?_
        refine go_exit rfl ?_
        refine go_seq (go_seq (rp 1 (go_block ?_)))
        refine go_iter (assizeref05zSame.s3 a0 a1) (fun x2316 f w => ∃ (j : Nat → Value), f = updL j [(2, vP b3 0), (3, vP b4 0), (6, vI x2316)] ∧ Inv M w [.blk b3 40 [vS A0z0 a0.Keys.length c0z0, vS A0z1 a0.Txns.length c0z1], .blk b4 40 [vS A1z0 a1.Keys.length c1z0, vS A1z1 a1.Txns.length c1z1]]) H ⟨_, at_, hI⟩ ?_
        clear H hI
        rintro x2316 _ _ o2 H ⟨_, rfl, hI⟩ hin2 hout2
        refine go_seq (go_seq (rg [.p, .p, .l 0 1, .p, .p] (gA (hI.grp 0 rfl)) ?_))
        replace H := cond_some H
        rcases H with ⟨hc2318, H⟩ | ⟨hc2318, H⟩
        · refine gt hc2318 (go_skip (go_seq (go_block ?_)))
          refine go_seq_join (o := o2) (fun (_ : Unit) f w => ∃ (j : Nat → Value) (b2909 : Nat) (A2910 : Option Addr) (c2911 : Nat) (b2914 : Nat) (A2915 : Option Addr) (c2916 : Nat), f = updL j [(2, vP b3 0), (3, vP b4 0), (6, vI x2316), (7, vP b2909 0), (8, vP b2914 0)] ∧ rdS kOp M.blk A2910 ((idx a0.Txns x2316).Ops) ∧ ((idx a0.Txns x2316).Ops).length ≤ c2911 ∧ rdS kOp M.blk A2915 ((idx a1.Txns x2316).Ops) ∧ ((idx a1.Txns x2316).Ops).length ≤ c2916 ∧ Inv M w [.blk b3 40 [vS A0z0 a0.Keys.length c0z0, vS A0z1 a0.Txns.length c0z1], .blk b4 40 [vS A1z0 a1.Keys.length c1z0, vS A1z1 a1.Txns.length c1z1], .blk b2909 61 [vI ((idx a0.Txns x2316).Proc), vI ((idx a0.Txns x2316).Status), vI ((idx a0.Txns x2316).From), vI ((idx a0.Txns x2316).To), vS A2910 (((idx a0.Txns x2316).Ops).length) c2911], .blk b2914 61 [vI ((idx a1.Txns x2316).Proc), vI ((idx a1.Txns x2316).Status), vI ((idx a1.Txns x2316).From), vI ((idx a1.Txns x2316).To), vS A2915 (((idx a1.Txns x2316).Ops).length) c2916]]) (fun (_ : Unit) => assizeref05zSame.j4 a0 a1 x2316) ?_ (fun hJ2919 => ?_)
          · clear H hI
            rintro ⟨⟩ _ _ ⟨_, b2909, A2910, c2911, b2914, A2915, c2916, rfl, hr2912, hl2913, hr2917, hl2918, hI⟩ H
            refine go_seq ?_
            refine go_seq_join (o := o2) (fun b2930 f w => ∃ (j : Nat → Value), f = updL j [(2, vP b3 0), (3, vP b4 0), (6, vI x2316), (7, vP b2909 0), (8, vP b2914 0), (97, vB b2930)] ∧ Inv M w [.blk b3 40 [vS A0z0 a0.Keys.length c0z0, vS A0z1 a0.Txns.length c0z1], .blk b4 40 [vS A1z0 a1.Keys.length c1z0, vS A1z1 a1.Txns.length c1z1], .blk b2909 61 [vI ((idx a0.Txns x2316).Proc), vI ((idx a0.Txns x2316).Status), vI ((idx a0.Txns x2316).From), vI ((idx a0.Txns x2316).To), vS A2910 (((idx a0.Txns x2316).Ops).length) c2911], .blk b2914 61 [vI ((idx a1.Txns x2316).Proc), vI ((idx a1.Txns x2316).Status), vI ((idx a1.Txns x2316).From), vI ((idx a1.Txns x2316).To), vS A2915 (((idx a1.Txns x2316).Ops).length) c2916]]) (fun b2930 => assizeref05zSame.j5 a0 a1 x2316 b2930) ?_ (fun hJ2931 => ?_)
            · clear H hI
              rintro b2930 _ _ ⟨_, rfl, hI⟩ H
              replace H := cond_some H
              rcases H with ⟨hc2932, H⟩ | ⟨hc2932, H⟩
              · refine gt hc2932 (go_seq (rp 1 ?_))
                replace H := out_some H
                obtain ⟨_, H, he2⟩ := H
                have he := (hout2 _ he2).symm
                subst he
                replace H := out_some H
                obtain ⟨_, H, he1⟩ := H
                have he := (hout1 _ he1).symm
                subst he
                replace H := Option.some.inj H
                subst H
                exact gr Try.func32 ⟨rfl, hI.pn⟩
              · refine ge hc2932 (go_skip (go_seq (rp 1 (go_block ?_))))
                refine go_iter (assizeref05zSame.s6 a0 a1 x2316) (fun x3279 f w => ∃ (j : Nat → Value), f = updL j [(2, vP b3 0), (3, vP b4 0), (6, vI x2316), (7, vP b2909 0), (8, vP b2914 0), (9, vI x3279)] ∧ Inv M w [.blk b3 40 [vS A0z0 a0.Keys.length c0z0, vS A0z1 a0.Txns.length c0z1], .blk b4 40 [vS A1z0 a1.Keys.length c1z0, vS A1z1 a1.Txns.length c1z1], .blk b2909 61 [vI ((idx a0.Txns x2316).Proc), vI ((idx a0.Txns x2316).Status), vI ((idx a0.Txns x2316).From), vI ((idx a0.Txns x2316).To), vS A2910 (((idx a0.Txns x2316).Ops).length) c2911], .blk b2914 61 [vI ((idx a1.Txns x2316).Proc), vI ((idx a1.Txns x2316).Status), vI ((idx a1.Txns x2316).From), vI ((idx a1.Txns x2316).To), vS A2915 (((idx a1.Txns x2316).Ops).length) c2916]]) H ⟨_, at_, hI⟩ ?_
                clear H hI
                rintro x3279 _ _ o3 H ⟨_, rfl, hI⟩ hin3 hout3
                refine go_seq (go_seq (rg [.p, .p, .l 0 4, .p, .p] (gA (hI.grp 2 rfl)) ?_))
                replace H := cond_some H
                rcases H with ⟨hc3281, H⟩ | ⟨hc3281, H⟩
                · refine gt hc3281 (go_skip (go_seq (go_block ?_)))
                  refine go_seq_join (o := o3) (fun (_ : Unit) f w => ∃ (j : Nat → Value) (b3462 : Nat) (A3463 : Option Addr) (c3464 : Nat) (b3467 : Nat) (A3468 : Option Addr) (c3469 : Nat), f = updL j [(2, vP b3 0), (3, vP b4 0), (6, vI x2316), (7, vP b2909 0), (8, vP b2914 0), (9, vI x3279), (10, vP b3462 0), (11, vP b3467 0)] ∧ rdS (tInt .i64) M.blk A3463 ((idx ((idx a0.Txns x2316).Ops) x3279).Vals) ∧ ((idx ((idx a0.Txns x2316).Ops) x3279).Vals).length ≤ c3464 ∧ rdS (tInt .i64) M.blk A3468 ((idx ((idx a1.Txns x2316).Ops) x3279).Vals) ∧ ((idx ((idx a1.Txns x2316).Ops) x3279).Vals).length ≤ c3469 ∧ Inv M w [.blk b3 40 [vS A0z0 a0.Keys.length c0z0, vS A0z1 a0.Txns.length c0z1], .blk b4 40 [vS A1z0 a1.Keys.length c1z0, vS A1z1 a1.Txns.length c1z1], .blk b2909 61 [vI ((idx a0.Txns x2316).Proc), vI ((idx a0.Txns x2316).Status), vI ((idx a0.Txns x2316).From), vI ((idx a0.Txns x2316).To), vS A2910 (((idx a0.Txns x2316).Ops).length) c2911], .blk b2914 61 [vI ((idx a1.Txns x2316).Proc), vI ((idx a1.Txns x2316).Status), vI ((idx a1.Txns x2316).From), vI ((idx a1.Txns x2316).To), vS A2915 (((idx a1.Txns x2316).Ops).length) c2916], .blk b3462 63 [vI ((idx ((idx a0.Txns x2316).Ops) x3279).Kind), vI ((idx ((idx a0.Txns x2316).Ops) x3279).Key), vI ((idx ((idx a0.Txns x2316).Ops) x3279).Arg), vB ((idx ((idx a0.Txns x2316).Ops) x3279).Got), vS A3463 (((idx ((idx a0.Txns x2316).Ops) x3279).Vals).length) c3464], .blk b3467 63 [vI ((idx ((idx a1.Txns x2316).Ops) x3279).Kind), vI ((idx ((idx a1.Txns x2316).Ops) x3279).Key), vI ((idx ((idx a1.Txns x2316).Ops) x3279).Arg), vB ((idx ((idx a1.Txns x2316).Ops) x3279).Got), vS A3468 (((idx ((idx a1.Txns x2316).Ops) x3279).Vals).length) c3469]]) (fun (_ : Unit) => assizeref05zSame.j7 a0 a1 x2316 x3279) ?_ (fun hJ3472 => ?_)
                  · clear H hI
                    rintro ⟨⟩ _ _ ⟨_, b3462, A3463, c3464, b3467, A3468, c3469, rfl, hr3465, hl3466, hr3470, hl3471, hI⟩ H
                    refine go_seq_join (o := o3) (fun b3479 f w => ∃ (j : Nat → Value), f = updL j [(2, vP b3 0), (3, vP b4 0), (6, vI x2316), (7, vP b2909 0), (8, vP b2914 0), (9, vI x3279), (148, vB b3479)] ∧ Inv M w [.blk b3 40 [vS A0z0 a0.Keys.length c0z0, vS A0z1 a0.Txns.length c0z1], .blk b4 40 [vS A1z0 a1.Keys.length c1z0, vS A1z1 a1.Txns.length c1z1], .blk b2909 61 [vI ((idx a0.Txns x2316).Proc), vI ((idx a0.Txns x2316).Status), vI ((idx a0.Txns x2316).From), vI ((idx a0.Txns x2316).To), vS A2910 (((idx a0.Txns x2316).Ops).length) c2911], .blk b2914 61 [vI ((idx a1.Txns x2316).Proc), vI ((idx a1.Txns x2316).Status), vI ((idx a1.Txns x2316).From), vI ((idx a1.Txns x2316).To), vS A2915 (((idx a1.Txns x2316).Ops).length) c2916]]) (fun b3479 => assizeref05zSame.j8 x3279 b3479) ?_ (fun hJ3480 => ?_)
                    · clear H hI
                      rintro b3479 _ _ ⟨_, rfl, hI⟩ H
                      replace H := cond_some H
                      rcases H with ⟨hc3481, H⟩ | ⟨hc3481, H⟩
                      · refine gt hc3481 (go_seq (rp 1 ?_))
                        replace H := out_some H
                        obtain ⟨_, H, he3⟩ := H
                        have he := (hout3 _ he3).symm
                        subst he
                        replace H := out_some H
                        obtain ⟨_, H, he2⟩ := H
                        have he := (hout2 _ he2).symm
                        subst he
                        replace H := out_some H
                        obtain ⟨_, H, he1⟩ := H
                        have he := (hout1 _ he1).symm
                        subst he
                        replace H := Option.some.inj H
                        subst H
                        exact gr Try.func32 ⟨rfl, hI.pn⟩
                      · refine ge hc3481 (go_skip (go_inBlock (rp 3 ?_)))
                        exact hin3 _ (Option.some.inj H).symm _ _ ⟨_, at_, hI⟩
                    · refine r_in ?_
                      replace H := cond_some H
                      rcases H with ⟨hc3482, H⟩ | ⟨hc3482, H⟩
                      · refine bx 0 [.p, .l 0 0, .p, .l 1 0, .p, .c true, .p, .p, .p, .p, .p, .p, .p, .p, .p, .p, .p, .p, .p, .p, .p, .p, .p, .p, .p, .p, .p, .p, .p, .p, .p, .p, .p, .p] (gB (hI.grp 4 rfl) (hI.grp 5 rfl)) _ (bZ (bndEq hc3482)) (ro ?_)
                        exact hJ3480 true _ _ ⟨_, at_, hI.pick [0, 1, 2, 3] (by decide) rfl⟩ H
                      · replace H := cond_some H
                        rcases H with ⟨hc3483, H⟩ | ⟨hc3483, H⟩
                        · refine bx 0 [.p, .l 0 0, .p, .l 1 0, .p, .c false, .p, .l 0 1, .p, .l 1 1, .p, .p, .c true, .p, .p, .p, .p, .p, .p, .p, .p, .p, .p, .p, .p, .p, .p, .p, .p, .p, .p, .p, .p, .p] (gB (hI.grp 4 rfl) (hI.grp 5 rfl)) _ (bC (bndEq hc3482) (bZ (bndEq hc3483))) (ro ?_)
                          exact hJ3480 true _ _ ⟨_, at_, hI.pick [0, 1, 2, 3] (by decide) rfl⟩ H
                        · replace H := cond_some H
                          rcases H with ⟨hc3484, H⟩ | ⟨hc3484, H⟩
                          · refine bx 0 [.p, .l 0 0, .p, .l 1 0, .p, .c false, .p, .l 0 1, .p, .l 1 1, .p, .p, .c false, .p, .l 0 2, .p, .l 1 2, .p, .p, .c true, .p, .p, .p, .p, .p, .p, .p, .p, .p, .p, .p, .p, .p, .p] (gB (hI.grp 4 rfl) (hI.grp 5 rfl)) _ (bC (bndEq hc3482) (bC (bndEq hc3483) (bZ (bndEq hc3484)))) (ro ?_)
                            exact hJ3480 true _ _ ⟨_, at_, hI.pick [0, 1, 2, 3] (by decide) rfl⟩ H
                          · replace H := cond_some H
                            rcases H with ⟨hc3485, H⟩ | ⟨hc3485, H⟩
                            · refine bx 0 [.p, .l 0 0, .p, .l 1 0, .p, .c false, .p, .l 0 1, .p, .l 1 1, .p, .p, .c false, .p, .l 0 2, .p, .l 1 2, .p, .p, .c false, .p, .l 0 3, .p, .l 1 3, .p, .p, .c true, .p, .p, .p, .p, .p, .p, .p] (gB (hI.grp 4 rfl) (hI.grp 5 rfl)) _ (bC (bndEq hc3482) (bC (bndEq hc3483) (bC (bndEq hc3484) (bZ (bndEq hc3485))))) (ro ?_)
                              exact hJ3480 true _ _ ⟨_, at_, hI.pick [0, 1, 2, 3] (by decide) rfl⟩ H
                            · refine bx 0 [.p, .l 0 0, .p, .l 1 0, .p, .c false, .p, .l 0 1, .p, .l 1 1, .p, .p, .c false, .p, .l 0 2, .p, .l 1 2, .p, .p, .c false, .p, .l 0 3, .p, .l 1 3, .p, .p, .c false, .p, .l 0 4, .p, .l 1 4] (gB (hI.grp 4 rfl) (hI.grp 5 rfl)) _ (bC (bndEq hc3482) (bC (bndEq hc3483) (bC (bndEq hc3484) (bZ (bndEq hc3485))))) ?_
                              replace H := bind_some H
                              obtain ⟨y3486, hy3487, H⟩ := H
                              refine oe 31 rfl ?_
                              refine ec (enter18 _) (assizeref03zSameVals_calls A3463 c3464 ((idx ((idx a0.Txns x2316).Ops) x3279).Vals) A3468 c3469 ((idx ((idx a1.Txns x2316).Ops) x3279).Vals) (memOf _) _ (Inv.start _) (hI.rd hr3465) hl3466 (hI.rd hr3470) hl3471 _ hy3487) ?_
                              rintro _ _ ⟨rfl, hI'⟩
                              replace hI := hI.call0 hI'
                              clear hI'
                              refine ⟨_, rfl, ?_⟩
                              refine bp 32 2 (ro ?_)
                              exact hJ3480 (!y3486) _ _ ⟨_, at_, hI.pick [0, 1, 2, 3] (by decide) rfl⟩ H
                  · replace H := must_some H
                    obtain ⟨g3488, H⟩ := H
                    replace H := must_some H
                    obtain ⟨g3498, H⟩ := H
                    refine go_held (fun w => Inv M w [.blk b3 40 [vS A0z0 a0.Keys.length c0z0, vS A0z1 a0.Txns.length c0z1], .blk b4 40 [vS A1z0 a1.Keys.length c1z0, vS A1z1 a1.Txns.length c1z1], .blk b2909 61 [vI ((idx a0.Txns x2316).Proc), vI ((idx a0.Txns x2316).Status), vI ((idx a0.Txns x2316).From), vI ((idx a0.Txns x2316).To), vS A2910 (((idx a0.Txns x2316).Ops).length) c2911], .blk b2914 61 [vI ((idx a1.Txns x2316).Proc), vI ((idx a1.Txns x2316).Status), vI ((idx a1.Txns x2316).From), vI ((idx a1.Txns x2316).To), vS A2915 (((idx a1.Txns x2316).Ops).length) c2916]]) (by kernel_rfl) ?_
                    replace hI := hI.drew'
                    obtain ⟨b3513, q3514, rfl, cs3512, hk3511, hg3510⟩ := rdS.open hr2912 rfl g3488
                    obtain ⟨_, _, rfl, rfl, ⟨_, _, rfl, rfl, ⟨_, _, rfl, rfl, ⟨_, _, rfl, rfl, ⟨A3515, c3516, rfl, hl3518, hr3517⟩⟩⟩⟩⟩ := hk3511
                    obtain ⟨b3522, q3523, rfl, cs3521, hk3520, hg3519⟩ := rdS.open hr2917 rfl g3498
                    obtain ⟨_, _, rfl, rfl, ⟨_, _, rfl, rfl, ⟨_, _, rfl, rfl, ⟨_, _, rfl, rfl, ⟨A3524, c3525, rfl, hl3527, hr3526⟩⟩⟩⟩⟩ := hk3520
                    refine hx (n := 4) [(0, .p), (1, .l 0 4), (2, .p), (3, .x), (4, .l 1 0), (5, .p), (6, .l 2 4), (7, .p), (8, .x), (9, .l 3 0)] (fun _ hS => (gD (hS.grp 2 rfl) (hS.lies hg3510) (hS.grp 3 rfl) (hS.lies hg3519))) hI _ (bC g3488 (bZ g3498)) ?_
                    refine held_each (n := 3) [10, 11] (by simp) (by kernel_rfl) ⟨⟨_, rfl, by kernel_rfl, ?_⟩, ⟨_, rfl, by kernel_rfl, ?_⟩, trivial⟩
                    · refine (e_alloc 63 (.agg #[vI 0, vI 0, vI 0, vB false, vS none 0 0]) [vI 0, vI 0, vI 0, vB false, vS none 0 0] rfl (by kernel_rfl) rfl hI ?_)
                      clear hI
                      intro b3530 _ hI
                      refine ⟨(hI.pk [0, 1, 2, 3]), ?_⟩
                      refine ho (n := 2) 11 rfl (e_alloc 63 (.agg #[vI 0, vI 0, vI 0, vB false, vS none 0 0]) [vI 0, vI 0, vI 0, vB false, vS none 0 0] rfl (by kernel_rfl) rfl hI ?_)
                      clear hI
                      intro b3532 _ hI
                      refine ⟨(hI.pk [0, 1, 2, 3]), ?_⟩
                      refine ho (n := 1) 12 rfl (e_store 63 _ _ 4 b3530 63 [vI 0, vI 0, vI 0, vB false, vS none 0 0] [vI ((idx ((idx a0.Txns x2316).Ops) x3279).Kind), vI ((idx ((idx a0.Txns x2316).Ops) x3279).Key), vI ((idx ((idx a0.Txns x2316).Ops) x3279).Arg), vB ((idx ((idx a0.Txns x2316).Ops) x3279).Got), vS A3515 (((idx ((idx a0.Txns x2316).Ops) x3279).Vals).length) c3516] 0 (.agg #[vI ((idx ((idx a0.Txns x2316).Ops) x3279).Kind), vI ((idx ((idx a0.Txns x2316).Ops) x3279).Key), vI ((idx ((idx a0.Txns x2316).Ops) x3279).Arg), vB ((idx ((idx a0.Txns x2316).Ops) x3279).Got), vS A3515 (((idx ((idx a0.Txns x2316).Ops) x3279).Vals).length) c3516]) rfl (by kernel_rfl) (by kernel_rfl) (by kernel_rfl) (by kernel_rfl) hI rfl (by kernel_rfl) (by kernel_rfl) ?_)
                      clear hI
                      intro _ hI
                      refine ⟨(hI.pk [0, 1, 2, 3]), ?_⟩
                      refine ho (n := 0) 13 rfl (e_store 63 _ _ 5 b3532 63 [vI 0, vI 0, vI 0, vB false, vS none 0 0] [vI ((idx ((idx a1.Txns x2316).Ops) x3279).Kind), vI ((idx ((idx a1.Txns x2316).Ops) x3279).Key), vI ((idx ((idx a1.Txns x2316).Ops) x3279).Arg), vB ((idx ((idx a1.Txns x2316).Ops) x3279).Got), vS A3524 (((idx ((idx a1.Txns x2316).Ops) x3279).Vals).length) c3525] 0 (.agg #[vI ((idx ((idx a1.Txns x2316).Ops) x3279).Kind), vI ((idx ((idx a1.Txns x2316).Ops) x3279).Key), vI ((idx ((idx a1.Txns x2316).Ops) x3279).Arg), vB ((idx ((idx a1.Txns x2316).Ops) x3279).Got), vS A3524 (((idx ((idx a1.Txns x2316).Ops) x3279).Vals).length) c3525]) rfl (by kernel_rfl) (by kernel_rfl) (by kernel_rfl) (by kernel_rfl) hI rfl (by kernel_rfl) (by kernel_rfl) ?_)
                      clear hI
                      intro _ hI
                      refine ⟨(hI.pk [0, 1, 2, 3]), ?_⟩
                      refine hd ?_
                      exact hJ3472 () _ _ ⟨_, b3530, A3515, c3516, b3532, A3524, c3525, at_, hr3517, hl3518, hr3526, hl3527, hI⟩ H
                    · refine (e_alloc 63 (.agg #[vI 0, vI 0, vI 0, vB false, vS none 0 0]) [vI 0, vI 0, vI 0, vB false, vS none 0 0] rfl (by kernel_rfl) rfl hI ?_)
                      clear hI
                      intro b3533 _ hI
                      refine ⟨(hI.pk [0, 1, 2, 3]), ?_⟩
                      refine ho (n := 2) 10 rfl (e_alloc 63 (.agg #[vI 0, vI 0, vI 0, vB false, vS none 0 0]) [vI 0, vI 0, vI 0, vB false, vS none 0 0] rfl (by kernel_rfl) rfl hI ?_)
                      clear hI
                      intro b3535 _ hI
                      refine ⟨(hI.pk [0, 1, 2, 3]), ?_⟩
                      refine ho (n := 1) 12 rfl (e_store 63 _ _ 5 b3535 63 [vI 0, vI 0, vI 0, vB false, vS none 0 0] [vI ((idx ((idx a0.Txns x2316).Ops) x3279).Kind), vI ((idx ((idx a0.Txns x2316).Ops) x3279).Key), vI ((idx ((idx a0.Txns x2316).Ops) x3279).Arg), vB ((idx ((idx a0.Txns x2316).Ops) x3279).Got), vS A3515 (((idx ((idx a0.Txns x2316).Ops) x3279).Vals).length) c3516] 0 (.agg #[vI ((idx ((idx a0.Txns x2316).Ops) x3279).Kind), vI ((idx ((idx a0.Txns x2316).Ops) x3279).Key), vI ((idx ((idx a0.Txns x2316).Ops) x3279).Arg), vB ((idx ((idx a0.Txns x2316).Ops) x3279).Got), vS A3515 (((idx ((idx a0.Txns x2316).Ops) x3279).Vals).length) c3516]) rfl (by kernel_rfl) (by kernel_rfl) (by kernel_rfl) (by kernel_rfl) hI rfl (by kernel_rfl) (by kernel_rfl) ?_)
                      clear hI
                      intro _ hI
                      refine ⟨(hI.pk [0, 1, 2, 3]), ?_⟩
                      refine ho (n := 0) 13 rfl (e_store 63 _ _ 4 b3533 63 [vI 0, vI 0, vI 0, vB false, vS none 0 0] [vI ((idx ((idx a1.Txns x2316).Ops) x3279).Kind), vI ((idx ((idx a1.Txns x2316).Ops) x3279).Key), vI ((idx ((idx a1.Txns x2316).Ops) x3279).Arg), vB ((idx ((idx a1.Txns x2316).Ops) x3279).Got), vS A3524 (((idx ((idx a1.Txns x2316).Ops) x3279).Vals).length) c3525] 0 (.agg #[vI ((idx ((idx a1.Txns x2316).Ops) x3279).Kind), vI ((idx ((idx a1.Txns x2316).Ops) x3279).Key), vI ((idx ((idx a1.Txns x2316).Ops) x3279).Arg), vB ((idx ((idx a1.Txns x2316).Ops) x3279).Got), vS A3524 (((idx ((idx a1.Txns x2316).Ops) x3279).Vals).length) c3525]) rfl (by kernel_rfl) (by kernel_rfl) (by kernel_rfl) (by kernel_rfl) hI rfl (by kernel_rfl) (by kernel_rfl) ?_)
                      clear hI
                      intro _ hI
                      refine ⟨(hI.pk [0, 1, 2, 3]), ?_⟩
                      refine hd ?_
                      exact hJ3472 () _ _ ⟨_, b3535, A3515, c3516, b3533, A3524, c3525, at_, hr3517, hl3518, hr3526, hl3527, hI.pick [0, 1, 2, 3, 5, 4] (by decide) rfl⟩ H
                · refine ge hc3281 ?_
                  refine go_exit rfl ?_
                  refine go_inBlock (rp 3 ?_)
                  replace H := out_some H
                  obtain ⟨_, H, he3⟩ := H
                  have he := (hout3 _ he3).symm
                  subst he
                  exact hin2 _ (Option.some.inj H).symm _ _ ⟨_, at_, hI.pick [0, 1] (by decide) rfl⟩
            · refine r_in ?_
              replace H := cond_some H
              rcases H with ⟨hc3536, H⟩ | ⟨hc3536, H⟩
              · refine bx 0 [.p, .l 0 0, .p, .l 1 0, .p, .c true, .p, .p, .p, .p, .p, .p, .p, .p, .p, .p, .p, .p, .p, .p, .p, .p, .p, .p, .p, .p, .p, .p, .p, .p, .p, .p, .p, .p, .p] (gB (hI.grp 2 rfl) (hI.grp 3 rfl)) _ (bZ (bndEq hc3536)) (ro ?_)
                exact hJ2931 true _ _ ⟨_, at_, hI⟩ H
              · replace H := cond_some H
                rcases H with ⟨hc3537, H⟩ | ⟨hc3537, H⟩
                · refine bx 0 [.p, .l 0 0, .p, .l 1 0, .p, .c false, .p, .l 0 1, .p, .l 1 1, .p, .p, .c true, .p, .p, .p, .p, .p, .p, .p, .p, .p, .p, .p, .p, .p, .p, .p, .p, .p, .p, .p, .p, .p, .p] (gB (hI.grp 2 rfl) (hI.grp 3 rfl)) _ (bC (bndEq hc3536) (bZ (bndEq hc3537))) (ro ?_)
                  exact hJ2931 true _ _ ⟨_, at_, hI⟩ H
                · replace H := cond_some H
                  rcases H with ⟨hc3538, H⟩ | ⟨hc3538, H⟩
                  · refine bx 0 [.p, .l 0 0, .p, .l 1 0, .p, .c false, .p, .l 0 1, .p, .l 1 1, .p, .p, .c false, .p, .l 0 2, .p, .l 1 2, .p, .p, .c true, .p, .p, .p, .p, .p, .p, .p, .p, .p, .p, .p, .p, .p, .p, .p] (gB (hI.grp 2 rfl) (hI.grp 3 rfl)) _ (bC (bndEq hc3536) (bC (bndEq hc3537) (bZ (bndEq hc3538)))) (ro ?_)
                    exact hJ2931 true _ _ ⟨_, at_, hI⟩ H
                  · replace H := cond_some H
                    rcases H with ⟨hc3539, H⟩ | ⟨hc3539, H⟩
                    · refine bx 0 [.p, .l 0 0, .p, .l 1 0, .p, .c false, .p, .l 0 1, .p, .l 1 1, .p, .p, .c false, .p, .l 0 2, .p, .l 1 2, .p, .p, .c false, .p, .l 0 3, .p, .l 1 3, .p, .p, .c true, .p, .p, .p, .p, .p, .p, .p, .p] (gB (hI.grp 2 rfl) (hI.grp 3 rfl)) _ (bC (bndEq hc3536) (bC (bndEq hc3537) (bC (bndEq hc3538) (bZ (bndEq hc3539))))) (ro ?_)
                      exact hJ2931 true _ _ ⟨_, at_, hI⟩ H
                    · refine bx 0 [.p, .l 0 0, .p, .l 1 0, .p, .c false, .p, .l 0 1, .p, .l 1 1, .p, .p, .c false, .p, .l 0 2, .p, .l 1 2, .p, .p, .c false, .p, .l 0 3, .p, .l 1 3, .p, .p, .c false, .p, .l 0 4, .p, .p, .l 1 4, .p, .p, .p] (gB (hI.grp 2 rfl) (hI.grp 3 rfl)) _ (bC (bndEq hc3536) (bC (bndEq hc3537) (bC (bndEq hc3538) (bZ (bndEq hc3539))))) (ro ?_)
                      exact hJ2931 ((((idx a0.Txns x2316).Ops).length : Int) != (((idx a1.Txns x2316).Ops).length : Int)) _ _ ⟨_, at_, hI⟩ H
          · replace H := must_some H
            obtain ⟨g3540, H⟩ := H
            replace H := must_some H
            obtain ⟨g3550, H⟩ := H
            refine go_held (fun w => Inv M w [.blk b3 40 [vS A0z0 a0.Keys.length c0z0, vS A0z1 a0.Txns.length c0z1], .blk b4 40 [vS A1z0 a1.Keys.length c1z0, vS A1z1 a1.Txns.length c1z1]]) (by kernel_rfl) ?_
            replace hI := hI.drew'
            obtain ⟨b3565, q3566, rfl, cs3564, hk3563, hg3562⟩ := rdS.open hr0z1 rfl g3540
            obtain ⟨_, _, rfl, rfl, ⟨_, _, rfl, rfl, ⟨_, _, rfl, rfl, ⟨_, _, rfl, rfl, ⟨A3567, c3568, rfl, hl3570, hr3569⟩⟩⟩⟩⟩ := hk3563
            obtain ⟨b3574, q3575, rfl, cs3573, hk3572, hg3571⟩ := rdS.open hr1z1 rfl g3550
            obtain ⟨_, _, rfl, rfl, ⟨_, _, rfl, rfl, ⟨_, _, rfl, rfl, ⟨_, _, rfl, rfl, ⟨A3576, c3577, rfl, hl3579, hr3578⟩⟩⟩⟩⟩ := hk3572
            refine hx (n := 4) [(0, .p), (1, .l 0 1), (2, .p), (3, .x), (4, .l 1 0), (5, .p), (6, .l 2 1), (7, .p), (8, .x), (9, .l 3 0)] (fun _ hS => (gD (hS.grp 0 rfl) (hS.lies hg3562) (hS.grp 1 rfl) (hS.lies hg3571))) hI _ (bC g3540 (bZ g3550)) ?_
            refine held_each (n := 3) [10, 11] (by simp) (by kernel_rfl) ⟨⟨_, rfl, by kernel_rfl, ?_⟩, ⟨_, rfl, by kernel_rfl, ?_⟩, trivial⟩
            · refine (e_alloc 61 (.agg #[vI 0, vI 0, vI 0, vI 0, vS none 0 0]) [vI 0, vI 0, vI 0, vI 0, vS none 0 0] rfl (by kernel_rfl) rfl hI ?_)
              clear hI
              intro b3582 _ hI
              refine ⟨(hI.pk [0, 1]), ?_⟩
              refine ho (n := 2) 11 rfl (e_alloc 61 (.agg #[vI 0, vI 0, vI 0, vI 0, vS none 0 0]) [vI 0, vI 0, vI 0, vI 0, vS none 0 0] rfl (by kernel_rfl) rfl hI ?_)
              clear hI
              intro b3584 _ hI
              refine ⟨(hI.pk [0, 1]), ?_⟩
              refine ho (n := 1) 12 rfl (e_store 61 _ _ 2 b3582 61 [vI 0, vI 0, vI 0, vI 0, vS none 0 0] [vI ((idx a0.Txns x2316).Proc), vI ((idx a0.Txns x2316).Status), vI ((idx a0.Txns x2316).From), vI ((idx a0.Txns x2316).To), vS A3567 (((idx a0.Txns x2316).Ops).length) c3568] 0 (.agg #[vI ((idx a0.Txns x2316).Proc), vI ((idx a0.Txns x2316).Status), vI ((idx a0.Txns x2316).From), vI ((idx a0.Txns x2316).To), vS A3567 (((idx a0.Txns x2316).Ops).length) c3568]) rfl (by kernel_rfl) (by kernel_rfl) (by kernel_rfl) (by kernel_rfl) hI rfl (by kernel_rfl) (by kernel_rfl) ?_)
              clear hI
              intro _ hI
              refine ⟨(hI.pk [0, 1]), ?_⟩
              refine ho (n := 0) 13 rfl (e_store 61 _ _ 3 b3584 61 [vI 0, vI 0, vI 0, vI 0, vS none 0 0] [vI ((idx a1.Txns x2316).Proc), vI ((idx a1.Txns x2316).Status), vI ((idx a1.Txns x2316).From), vI ((idx a1.Txns x2316).To), vS A3576 (((idx a1.Txns x2316).Ops).length) c3577] 0 (.agg #[vI ((idx a1.Txns x2316).Proc), vI ((idx a1.Txns x2316).Status), vI ((idx a1.Txns x2316).From), vI ((idx a1.Txns x2316).To), vS A3576 (((idx a1.Txns x2316).Ops).length) c3577]) rfl (by kernel_rfl) (by kernel_rfl) (by kernel_rfl) (by kernel_rfl) hI rfl (by kernel_rfl) (by kernel_rfl) ?_)
              clear hI
              intro _ hI
              refine ⟨(hI.pk [0, 1]), ?_⟩
              refine hd ?_
              exact hJ2919 () _ _ ⟨_, b3582, A3567, c3568, b3584, A3576, c3577, at_, hr3569, hl3570, hr3578, hl3579, hI⟩ H
            · refine (e_alloc 61 (.agg #[vI 0, vI 0, vI 0, vI 0, vS none 0 0]) [vI 0, vI 0, vI 0, vI 0, vS none 0 0] rfl (by kernel_rfl) rfl hI ?_)
              clear hI
              intro b3585 _ hI
              refine ⟨(hI.pk [0, 1]), ?_⟩
              refine ho (n := 2) 10 rfl (e_alloc 61 (.agg #[vI 0, vI 0, vI 0, vI 0, vS none 0 0]) [vI 0, vI 0, vI 0, vI 0, vS none 0 0] rfl (by kernel_rfl) rfl hI ?_)
              clear hI
              intro b3587 _ hI
              refine ⟨(hI.pk [0, 1]), ?_⟩
              refine ho (n := 1) 12 rfl (e_store 61 _ _ 3 b3587 61 [vI 0, vI 0, vI 0, vI 0, vS none 0 0] [vI ((idx a0.Txns x2316).Proc), vI ((idx a0.Txns x2316).Status), vI ((idx a0.Txns x2316).From), vI ((idx a0.Txns x2316).To), vS A3567 (((idx a0.Txns x2316).Ops).length) c3568] 0 (.agg #[vI ((idx a0.Txns x2316).Proc), vI ((idx a0.Txns x2316).Status), vI ((idx a0.Txns x2316).From), vI ((idx a0.Txns x2316).To), vS A3567 (((idx a0.Txns x2316).Ops).length) c3568]) rfl (by kernel_rfl) (by kernel_rfl) (by kernel_rfl) (by kernel_rfl) hI rfl (by kernel_rfl) (by kernel_rfl) ?_)
              clear hI
              intro _ hI
              refine ⟨(hI.pk [0, 1]), ?_⟩
              refine ho (n := 0) 13 rfl (e_store 61 _ _ 2 b3585 61 [vI 0, vI 0, vI 0, vI 0, vS none 0 0] [vI ((idx a1.Txns x2316).Proc), vI ((idx a1.Txns x2316).Status), vI ((idx a1.Txns x2316).From), vI ((idx a1.Txns x2316).To), vS A3576 (((idx a1.Txns x2316).Ops).length) c3577] 0 (.agg #[vI ((idx a1.Txns x2316).Proc), vI ((idx a1.Txns x2316).Status), vI ((idx a1.Txns x2316).From), vI ((idx a1.Txns x2316).To), vS A3576 (((idx a1.Txns x2316).Ops).length) c3577]) rfl (by kernel_rfl) (by kernel_rfl) (by kernel_rfl) (by kernel_rfl) hI rfl (by kernel_rfl) (by kernel_rfl) ?_)
              clear hI
              intro _ hI
              refine ⟨(hI.pk [0, 1]), ?_⟩
              refine hd ?_
              exact hJ2919 () _ _ ⟨_, b3587, A3567, c3568, b3585, A3576, c3577, at_, hr3569, hl3570, hr3578, hl3579, hI.pick [0, 1, 3, 2] (by decide) rfl⟩ H
        · refine ge hc2318 ?_
          refine go_exit rfl ?_
          refine go_seq (rp 1 ?_)
          replace H := out_some H
          obtain ⟨_, H, he2⟩ := H
          have he := (hout2 _ he2).symm
          subst he
          replace H := out_some H
          obtain ⟨_, H, he1⟩ := H
          have he := (hout1 _ he1).symm
          subst he
          replace H := Option.some.inj H
          subst H
          exact gr Try.func32 ⟨rfl, hI.pn⟩
  · refine r_in ?_
    replace H := cond_some H
    rcases H with ⟨hc3588, H⟩ | ⟨hc3588, H⟩
    · refine bx 0 [.p, .l 0 0, .p, .p, .l 1 0, .p, .p, .c true, .p, .p, .p, .p, .p, .p, .p, .p] (gB (hI.grp 0 rfl) (hI.grp 1 rfl)) _ (bZ (bndEq hc3588)) (ro ?_)
      exact hJ10 true _ _ ⟨_, at_, hI⟩ H
    · refine bx 0 [.p, .l 0 0, .p, .p, .l 1 0, .p, .p, .c false, .p, .l 0 1, .p, .p, .l 1 1, .p, .p, .p] (gB (hI.grp 0 rfl) (hI.grp 1 rfl)) _ (bZ (bndEq hc3588)) (ro ?_)
      exact hJ10 ((a0.Txns.length : Int) != (a1.Txns.length : Int)) _ _ ⟨_, at_, hI⟩ H

/-! ### assizelaw09zLocalLooks -/
theorem enter8 (a : Array Value) : Sem.pureRun Try.prog (callFunc 8 a) = some (.enter 8 a) := by kernel_rfl
theorem assizelaw09zLocalLooks_calls (a0 : History) (A0z0 : Option Addr) (c0z0 : Nat) (A0z1 : Option Addr) (c0z1 : Nat) (a1 : Int) (M : Mem) (w : World) (hI : Inv M w []) (hr0z0 : rdS tStr M.blk A0z0 a0.Keys) (hl0z0 : a0.Keys.length ≤ c0z0) (hr0z1 : rdS kTxn M.blk A0z1 a0.Txns) (hl0z1 : a0.Txns.length ≤ c0z1) (r : Bool) (H : assizelaw09zLocalLooks a0 a1 = some r) :
    Calls Try.prog 8 #[.agg #[vS A0z0 a0.Keys.length c0z0, vS A0z1 a0.Txns.length c0z1], vI a1] w fun e w' => e = .returned (vB r) ∧ Inv M w' [] := by
  refine cg Try.func8 ?_
  intro cs
  unfold assizelaw09zLocalLooks at H
  refine go_seq (r_in (oe 0 rfl ?_))
  refine e_box 40 _ (.agg #[vS A0z0 a0.Keys.length c0z0, vS A0z1 a0.Txns.length c0z1]) [vS A0z0 a0.Keys.length c0z0, vS A0z1 a0.Txns.length c0z1] rfl (by kernel_rfl) rfl hI ?_
  clear hI
  intro b2 _ hI
  refine bp 1 1 (ro (go_seq (go_seq (r_in ?_))))
  replace H := bind_some H
  obtain ⟨y8, hy9, H⟩ := H
  refine oe 0 rfl ?_
  refine ec (enter26 _) (assizelaw09zalive_calls (memOf _) _ (Inv.start _) _ hy9) ?_
  rintro _ _ ⟨rfl, hI'⟩
  replace hI := hI.call0 hI'
  clear hI'
  refine ⟨_, rfl, ?_⟩
  refine bp 1 1 (ro ?_)
  replace H := cond_some H
  rcases H with ⟨hc10, H⟩ | ⟨hc10, H⟩
  · refine gt hc10 (go_seq (rp 1 ?_))
    replace H := Option.some.inj H
    subst H
    exact gr Try.func8 ⟨rfl, hI.pn⟩
  · refine ge hc10 (go_skip (go_seq (r_in (bg 0 [.l 0 0] (gA (hI.grp 0 rfl)) ?_))))
    replace H := bind_some H
    obtain ⟨y18, hy19, H⟩ := H
    refine oe 1 rfl ?_
    refine ec (enter27 _) (assizeref05zCopy_calls a0 A0z0 c0z0 A0z1 c0z1 (memOf _) _ (Inv.start _) (hI.rd hr0z0) hl0z0 (hI.rd hr0z1) hl0z1 _ hy19) ?_
    rintro _ _ ⟨A20, c21, A22, c23, rfl, hI'⟩
    replace hI := hI.call0 hI'
    clear hI'
    refine ⟨_, rfl, ?_⟩
    refine oe 2 rfl ?_
    refine e_alloc 40 (.agg #[vS none 0 0, vS none 0 0]) [vS none 0 0, vS none 0 0] rfl (by kernel_rfl) rfl hI ?_
    clear hI
    intro b24 _ hI
    refine oe 3 rfl ?_
    refine e_store 40 _ _ 3 b24 40 [vS none 0 0, vS none 0 0] [vS A20 y18.Keys.length c21, vS A22 y18.Txns.length c23] 0 (.agg #[vS A20 y18.Keys.length c21, vS A22 y18.Txns.length c23]) rfl (by kernel_rfl) (by kernel_rfl) (by kernel_rfl) (by kernel_rfl) hI rfl (by kernel_rfl) (by kernel_rfl) ?_
    clear hI
    intro _ hI
    refine ro (go_seq (r_in (bg 0 [.l 0 0, .p] (gA (hI.grp 3 rfl)) ?_)))
    replace H := bind_some H
    obtain ⟨y31, hy32, H⟩ := H
    refine oe 2 rfl ?_
    refine ec (enter28 _) (local_Look_calls y18 A20 c21 A22 c23 a1 (memOf _) _ (Inv.start _) (hI.row 1 rfl) (hI.rowle 1 rfl) (hI.row 2 rfl) (hI.rowle 2 rfl) _ hy32) ?_
    rintro _ _ ⟨A33, c34, A35, c36, rfl, hI'⟩
    replace hI := hI.call0 hI'
    clear hI'
    refine ⟨_, rfl, ?_⟩
    refine bp 3 7 (ro (go_seq (r_in (bg 0 [.l 0 0, .p] (gA (hI.grp 0 rfl)) ?_))))
    replace H := bind_some H
    obtain ⟨y43, hy44, H⟩ := H
    refine oe 2 rfl ?_
    refine ec (enter29 _) (assizeref09zLook_calls a0 A0z0 c0z0 A0z1 c0z1 a1 (memOf _) _ (Inv.start _) (hI.rd hr0z0) hl0z0 (hI.rd hr0z1) hl0z1 _ hy44) ?_
    rintro _ _ ⟨A45, c46, A47, c48, rfl, hI'⟩
    replace hI := hI.call0 hI'
    clear hI'
    refine ⟨_, rfl, ?_⟩
    refine bp 3 7 (ro (go_seq (r_in ?_)))
    replace H := cond_some H
    rcases H with ⟨hc58, H⟩ | ⟨hc58, H⟩
    · refine bx 0 [.p, .p, .p, .c true, .p, .p] gO _ (bZ (bndEq hc58)) ?_
      replace H := bind_some H
      obtain ⟨y59, hy60, H⟩ := H
      refine oe 6 rfl ?_
      refine ec (enter30 _) (assizeref09zSameAsks_calls A33 c34 y31.1 A45 c46 y43.1 (memOf _) _ (Inv.start _) (hI.row 4 rfl) (hI.rowle 4 rfl) (hI.row 6 rfl) (hI.rowle 6 rfl) _ hy60) ?_
      rintro _ _ ⟨rfl, hI'⟩
      replace hI := hI.call0 hI'
      clear hI'
      refine ⟨_, rfl, ?_⟩
      replace H := cond_some H
      rcases H with ⟨hc61, H⟩ | ⟨hc61, H⟩
      · refine bx 7 [.p, .c true, .p, .p] gO _ (bZ (bndEq hc61)) ?_
        replace H := bind_some H
        obtain ⟨y62, hy63, H⟩ := H
        refine oe 11 rfl ?_
        refine ec (enter31 _) (assizeref09zSameSpots_calls A35 c36 y31.2.1 A47 c48 y43.2.1 (memOf _) _ (Inv.start _) (hI.row 5 rfl) (hI.rowle 5 rfl) (hI.row 7 rfl) (hI.rowle 7 rfl) _ hy63) ?_
        rintro _ _ ⟨rfl, hI'⟩
        replace hI := hI.call0 hI'
        clear hI'
        refine ⟨_, rfl, ?_⟩
        replace H := cond_some H
        rcases H with ⟨hc64, H⟩ | ⟨hc64, H⟩
        · refine bx 12 [.p, .c true, .l 0 0, .l 1 0] (gB (hI.grp 3 rfl) (hI.grp 0 rfl)) _ (bZ (bndEq hc64)) ?_
          replace H := bind_some H
          obtain ⟨y65, hy66, H⟩ := H
          refine oe 16 rfl ?_
          refine ec (enter32 _) (assizeref05zSame_calls y18 A20 c21 A22 c23 a0 A0z0 c0z0 A0z1 c0z1 (memOf _) _ (Inv.start _) (hI.row 1 rfl) (hI.rowle 1 rfl) (hI.row 2 rfl) (hI.rowle 2 rfl) (hI.rd hr0z0) hl0z0 (hI.rd hr0z1) hl0z1 _ hy66) ?_
          rintro _ _ ⟨rfl, hI'⟩
          replace hI := hI.call0 hI'
          clear hI'
          refine ⟨_, rfl, ?_⟩
          refine bp 17 2 (ro ?_)
          replace H := Option.some.inj H
          subst H
          exact gr Try.func8 ⟨rfl, hI.pn⟩
        · refine bx 12 [.p, .c false, .p, .p, .p, .p, .p] gO _ (bZ (bndEq hc64)) (ro ?_)
          replace H := Option.some.inj H
          subst H
          exact gr Try.func8 ⟨rfl, hI.pn⟩
      · refine bx 7 [.p, .c false, .p, .p, .p, .p, .p, .p, .p, .p, .p, .p] gO _ (bZ (bndEq hc61)) (ro ?_)
        replace H := Option.some.inj H
        subst H
        exact gr Try.func8 ⟨rfl, hI.pn⟩
    · refine bx 0 [.p, .p, .p, .c false, .p, .p, .p, .p, .p, .p, .p, .p, .p, .p, .p, .p, .p, .p, .p] gO _ (bZ (bndEq hc58)) (ro ?_)
      replace H := Option.some.inj H
      subst H
      exact gr Try.func8 ⟨rfl, hI.pn⟩

/-! ### assizelaw09zLocalAlone -/
theorem enter9 (a : Array Value) : Sem.pureRun Try.prog (callFunc 9 a) = some (.enter 9 a) := by kernel_rfl
theorem assizelaw09zLocalAlone_calls (a0 : History) (A0z0 : Option Addr) (c0z0 : Nat) (A0z1 : Option Addr) (c0z1 : Nat) (a1 : Int) (M : Mem) (w : World) (hI : Inv M w []) (hr0z0 : rdS tStr M.blk A0z0 a0.Keys) (hl0z0 : a0.Keys.length ≤ c0z0) (hr0z1 : rdS kTxn M.blk A0z1 a0.Txns) (hl0z1 : a0.Txns.length ≤ c0z1) (r : Bool) (H : assizelaw09zLocalAlone a0 a1 = some r) :
    Calls Try.prog 9 #[.agg #[vS A0z0 a0.Keys.length c0z0, vS A0z1 a0.Txns.length c0z1], vI a1] w fun e w' => e = .returned (vB r) ∧ Inv M w' [] := by
  refine cg Try.func9 ?_
  intro cs
  unfold assizelaw09zLocalAlone at H
  refine go_seq (r_in (oe 0 rfl ?_))
  refine e_box 40 _ (.agg #[vS A0z0 a0.Keys.length c0z0, vS A0z1 a0.Txns.length c0z1]) [vS A0z0 a0.Keys.length c0z0, vS A0z1 a0.Txns.length c0z1] rfl (by kernel_rfl) rfl hI ?_
  clear hI
  intro b2 _ hI
  refine bp 1 1 (ro (go_seq (go_seq (r_in ?_))))
  replace H := bind_some H
  obtain ⟨y8, hy9, H⟩ := H
  refine oe 0 rfl ?_
  refine ec (enter26 _) (assizelaw09zalive_calls (memOf _) _ (Inv.start _) _ hy9) ?_
  rintro _ _ ⟨rfl, hI'⟩
  replace hI := hI.call0 hI'
  clear hI'
  refine ⟨_, rfl, ?_⟩
  refine bp 1 1 (ro ?_)
  replace H := cond_some H
  rcases H with ⟨hc10, H⟩ | ⟨hc10, H⟩
  · refine gt hc10 (go_seq (rp 1 ?_))
    replace H := Option.some.inj H
    subst H
    exact gr Try.func9 ⟨rfl, hI.pn⟩
  · refine ge hc10 (go_skip (go_seq (r_in (bg 0 [.l 0 0, .p] (gA (hI.grp 0 rfl)) ?_))))
    replace H := bind_some H
    obtain ⟨y26, hy27, H⟩ := H
    refine oe 2 rfl ?_
    refine ec (enter28 _) (local_Look_calls a0 A0z0 c0z0 A0z1 c0z1 a1 (memOf _) _ (Inv.start _) (hI.rd hr0z0) hl0z0 (hI.rd hr0z1) hl0z1 _ hy27) ?_
    rintro _ _ ⟨A28, c29, A30, c31, rfl, hI'⟩
    replace hI := hI.call0 hI'
    clear hI'
    refine ⟨_, rfl, ?_⟩
    refine bp 3 7 (ro ?_)
    obtain ⟨M32, F33, hs34, hb35, ho36, hI'⟩ := hI.lend 1 rfl
    clear hI
    have hI := hI'.pick (L' := [.blk b2 40 [vS A0z0 a0.Keys.length c0z0, vS A0z1 a0.Txns.length c0z1], .row kSpot 53 A30 y26.2.1.length c31 y26.2.1]) [0, 2] (by decide) rfl
    clear hI'
    have hr37 := rowOwn.rd ho36.1
    have hl38 := rowOwn.le ho36.1
    have hf39 := rdS.mono hr0z0 hs34
    have hf40 := rdS.mono hr0z1 hs34
    refine go_seq (go_seq (rp 2 ?_))
    replace H := cond_some H
    rcases H with ⟨hc44, H⟩ | ⟨hc44, H⟩
    · refine gt hc44 (go_seq (r_in ?_))
      replace H := cond_some H
      rcases H with ⟨hc46, H⟩ | ⟨hc46, H⟩
      · refine bx 0 [.p, .p, .p, .c true, .p, .p, .p, .p, .p] gO _ (bZ (bndEq hc46)) (ro ?_)
        replace H := Option.some.inj H
        subst H
        exact gr Try.func9 ⟨rfl, Inv.tail (hb35 _ _ (hI.pn))⟩
      · refine bx 0 [.p, .p, .p, .c false, .p, .p, .p, .p, .p] gO _ (bZ (bndEq hc46)) (ro ?_)
        replace H := Option.some.inj H
        subst H
        exact gr Try.func9 ⟨rfl, Inv.tail (hb35 _ _ (hI.pn))⟩
    · refine ge hc44 (go_skip ?_)
      refine go_seq_join (o := r) (fun (_ : Unit) f w => ∃ (j : Nat → Value) (b73 : Nat) (A74 : Option Addr) (c75 : Nat), f = updL j [(5, vS A28 y26.1.length c29), (6, vS A30 y26.2.1.length c31), (8, vP b73 0)] ∧ rdS kTxn M32.blk A74 (subl a0.Txns a1 (w64 (a1 + 1))) ∧ (subl a0.Txns a1 (w64 (a1 + 1))).length ≤ c75 ∧ Inv M32 w [.row kSpot 53 A30 y26.2.1.length c31 y26.2.1, .blk b73 40 [vS A0z0 a0.Keys.length c0z0, vS A74 ((subl a0.Txns a1 (w64 (a1 + 1))).length) c75]]) (fun (_ : Unit) => assizelaw09zLocalAlone.j1 a0 a1 y26) ?_ (fun hJ78 => ?_)
      · clear H hI
        rintro ⟨⟩ _ _ ⟨_, b73, A74, c75, rfl, hr76, hl77, hI⟩ H
        refine go_seq (r_in (bg 0 [.l 0 0] (gA (hI.grp 1 rfl)) ?_))
        replace H := bind_some H
        obtain ⟨y96, hy97, H⟩ := H
        refine oe 1 rfl ?_
        refine ec (enter28 _) (local_Look_calls (⟨a0.Keys, subl a0.Txns a1 (w64 (a1 + 1))⟩ : History) A0z0 c0z0 A74 c75 0 (memOf _) _ (Inv.start _) (hI.rd hf39) hl0z0 (hI.rd hr76) hl77 _ hy97) ?_
        rintro _ _ ⟨A98, c99, A100, c101, rfl, hI'⟩
        replace hI := hI.call0 hI'
        clear hI'
        refine ⟨_, rfl, ?_⟩
        refine bp 2 7 (ro ?_)
        obtain ⟨M102, F103, hs104, hb105, ho106, hI'⟩ := hI.lend 2 rfl
        clear hI
        have hI := hI'.pick (L' := [.row kSpot 53 A30 y26.2.1.length c31 y26.2.1, .blk b73 40 [vS A0z0 a0.Keys.length c0z0, vS A74 ((subl a0.Txns a1 (w64 (a1 + 1))).length) c75], .row kSpot 53 A100 y96.2.1.length c101 y96.2.1]) [0, 1, 3] (by decide) rfl
        clear hI'
        have hr107 := rowOwn.rd ho106.1
        have hl108 := rowOwn.le ho106.1
        have hf109 := rdS.mono hr37 hs104
        have hf110 := rdS.mono hf39 hs104
        have hf111 := rdS.mono hr76 hs104
        have hf112 := rdS.mono hf40 hs104
        refine go_seq ?_
        refine go_seq_join (o := r) (fun b119 f w => ∃ (j : Nat → Value), f = updL j [(5, vS A28 y26.1.length c29), (6, vS A30 y26.2.1.length c31), (9, vS A98 y96.1.length c99), (10, vS A100 y96.2.1.length c101), (63, vB b119)] ∧ Inv M102 w [.row kSpot 53 A30 y26.2.1.length c31 y26.2.1, .row kSpot 53 A100 y96.2.1.length c101 y96.2.1]) (fun b119 => assizelaw09zLocalAlone.j2 y26 y96 b119) ?_ (fun hJ120 => ?_)
        · clear H hI
          rintro b119 _ _ ⟨_, rfl, hI⟩ H
          replace H := cond_some H
          rcases H with ⟨hc121, H⟩ | ⟨hc121, H⟩
          · refine gt hc121 (go_seq (rp 1 ?_))
            replace H := Option.some.inj H
            subst H
            exact gr Try.func9 ⟨rfl, Inv.tail (hb35 _ _ (Inv.tail (hb105 _ _ (hI.pn))))⟩
          · refine ge hc121 (go_skip (go_seq (go_seq (rp 1 (go_block ?_)))))
            refine go_iter (assizelaw09zLocalAlone.s3 y26 y96) (fun x643 f w => ∃ (j : Nat → Value), f = updL j [(5, vS A28 y26.1.length c29), (6, vS A30 y26.2.1.length c31), (9, vS A98 y96.1.length c99), (10, vS A100 y96.2.1.length c101), (12, vI x643)] ∧ Inv M102 w [.row kSpot 53 A30 y26.2.1.length c31 y26.2.1, .row kSpot 53 A100 y96.2.1.length c101 y96.2.1]) H ⟨_, at_, hI⟩ ?_
            clear H hI
            rintro x643 _ _ o1 H ⟨_, rfl, hI⟩ hin1 hout1
            refine go_seq (go_seq (rp 4 ?_))
            replace H := cond_some H
            rcases H with ⟨hc645, H⟩ | ⟨hc645, H⟩
            · refine gt hc645 (go_skip (go_seq (go_block ?_)))
              refine go_seq_join (o := o1) (fun b830 f w => ∃ (j : Nat → Value), f = updL j [(5, vS A28 y26.1.length c29), (6, vS A30 y26.2.1.length c31), (9, vS A98 y96.1.length c99), (10, vS A100 y96.2.1.length c101), (12, vI x643), (115, vB b830)] ∧ Inv M102 w [.row kSpot 53 A30 y26.2.1.length c31 y26.2.1, .row kSpot 53 A100 y96.2.1.length c101 y96.2.1]) (fun b830 => assizelaw09zLocalAlone.j4 x643 b830) ?_ (fun hJ831 => ?_)
              · clear H hI
                rintro b830 _ _ ⟨_, rfl, hI⟩ H
                replace H := cond_some H
                rcases H with ⟨hc832, H⟩ | ⟨hc832, H⟩
                · refine gt hc832 (go_seq (rp 1 ?_))
                  replace H := out_some H
                  obtain ⟨_, H, he1⟩ := H
                  have he := (hout1 _ he1).symm
                  subst he
                  replace H := Option.some.inj H
                  subst H
                  exact gr Try.func9 ⟨rfl, Inv.tail (hb35 _ _ (Inv.tail (hb105 _ _ (hI.pn))))⟩
                · refine ge hc832 (go_skip (go_inBlock (rp 3 ?_)))
                  exact hin1 _ (Option.some.inj H).symm _ _ ⟨_, at_, hI⟩
              · replace H := must_some H
                obtain ⟨g833, H⟩ := H
                obtain ⟨b837, q838, rfl, cs836, hk835, hg834⟩ := rdS.open hr107 rfl g833
                obtain ⟨_, _, rfl, rfl, ⟨_, _, rfl, rfl, ⟨_, _, rfl, rfl, ⟨A839, c840, rfl, hl842, hr841⟩⟩⟩⟩ := hk835
                replace H := cond_some H
                rcases H with ⟨hc843, H⟩ | ⟨hc843, H⟩
                · refine dx [.p, .p, .x, .p, .l 0 0, .p, .c true, .p, .p, .p, .p, .p, .p, .p, .p, .p, .p, .p, .p, .p, .p, .p, .p, .p, .p, .p, .p, .p, .p, .p, .p, .p, .p, .p, .p, .p, .p, .p, .p, .p, .p, .p, .p, .p, .p, .p] (gA (hI.lies hg834)) _ (bC g833 (bZ (bndEq hc843))) hI ?_
                  clear hI
                  intro _ hI
                  exact hJ831 true _ _ ⟨_, at_, hI⟩ H
                · obtain ⟨cs846, hk845, hg844⟩ := rdS.look hr107 rfl g833
                  obtain ⟨_, _, rfl, rfl, ⟨_, _, rfl, rfl, ⟨_, _, rfl, rfl, ⟨A847, c848, rfl, hl850, hr849⟩⟩⟩⟩ := hk845
                  replace H := must_some H
                  obtain ⟨g851, H⟩ := H
                  obtain ⟨b855, q856, rfl, cs854, hk853, hg852⟩ := rdS.open hf109 rfl g851
                  obtain ⟨_, _, rfl, rfl, ⟨_, _, rfl, rfl, ⟨_, _, rfl, rfl, ⟨A857, c858, rfl, hl860, hr859⟩⟩⟩⟩ := hk853
                  replace H := cond_some H
                  rcases H with ⟨hc861, H⟩ | ⟨hc861, H⟩
                  · refine dx [.p, .p, .x, .p, .l 0 0, .p, .c false, .p, .p, .x, .p, .l 1 1, .p, .p, .x, .p, .l 2 1, .p, .p, .c true, .p, .p, .p, .p, .p, .p, .p, .p, .p, .p, .p, .p, .p, .p, .p, .p, .p, .p, .p, .p, .p, .p, .p, .p, .p, .p] (gC (hI.lies hg834) (hI.lies hg844) (hI.lies hg852)) _ (bC g833 (bC (bndEq hc843) (bC g833 (bC g851 (bZ (bndEq hc861)))))) hI ?_
                    clear hI
                    intro _ hI
                    exact hJ831 true _ _ ⟨_, at_, hI⟩ H
                  · obtain ⟨cs864, hk863, hg862⟩ := rdS.look hr107 rfl g833
                    obtain ⟨_, _, rfl, rfl, ⟨_, _, rfl, rfl, ⟨_, _, rfl, rfl, ⟨A865, c866, rfl, hl868, hr867⟩⟩⟩⟩ := hk863
                    obtain ⟨cs871, hk870, hg869⟩ := rdS.look hf109 rfl g851
                    obtain ⟨_, _, rfl, rfl, ⟨_, _, rfl, rfl, ⟨_, _, rfl, rfl, ⟨A872, c873, rfl, hl875, hr874⟩⟩⟩⟩ := hk870
                    replace H := cond_some H
                    rcases H with ⟨hc876, H⟩ | ⟨hc876, H⟩
                    · refine dx [.p, .p, .x, .p, .l 0 0, .p, .c false, .p, .p, .x, .p, .l 1 1, .p, .p, .x, .p, .l 2 1, .p, .p, .c false, .p, .p, .x, .p, .l 3 2, .p, .p, .x, .p, .l 4 2, .p, .p, .c true, .p, .p, .p, .p, .p, .p, .p, .p, .p, .p, .p, .p, .p] (gK (hI.lies hg834) (gD (hI.lies hg844) (hI.lies hg852) (hI.lies hg862) (hI.lies hg869))) _ (bC g833 (bC (bndEq hc843) (bC g833 (bC g851 (bC (bndEq hc861) (bC g833 (bC g851 (bZ (bndEq hc876))))))))) hI ?_
                      clear hI
                      intro _ hI
                      exact hJ831 true _ _ ⟨_, at_, hI⟩ H
                    · obtain ⟨cs879, hk878, hg877⟩ := rdS.look hr107 rfl g833
                      obtain ⟨_, _, rfl, rfl, ⟨_, _, rfl, rfl, ⟨_, _, rfl, rfl, ⟨A880, c881, rfl, hl883, hr882⟩⟩⟩⟩ := hk878
                      obtain ⟨cs886, hk885, hg884⟩ := rdS.look hf109 rfl g851
                      obtain ⟨_, _, rfl, rfl, ⟨_, _, rfl, rfl, ⟨_, _, rfl, rfl, ⟨A887, c888, rfl, hl890, hr889⟩⟩⟩⟩ := hk885
                      replace H := bind_some H
                      obtain ⟨y891, hy892, H⟩ := H
                      refine go_held (fun w => Inv M102 w [.row kSpot 53 A30 y26.2.1.length c31 y26.2.1, .row kSpot 53 A100 y96.2.1.length c101 y96.2.1]) (by kernel_rfl) ?_
                      replace hI := hI.drew'
                      refine hx (n := 3) [(0, .p), (1, .p), (2, .x), (3, .p), (4, .l 0 0), (5, .p), (6, .c false), (7, .p), (8, .p), (9, .x), (10, .p), (11, .l 1 1), (12, .p), (13, .p), (14, .x), (15, .p), (16, .l 2 1), (17, .p), (18, .p), (19, .c false), (20, .p), (21, .p), (22, .x), (23, .p), (24, .l 3 2), (25, .p), (26, .p), (27, .x), (28, .p), (29, .l 4 2), (30, .p), (31, .p), (32, .c false), (33, .p), (34, .p), (35, .x), (36, .p), (37, .l 5 3), (38, .p), (39, .p), (40, .x), (41, .p), (42, .l 6 3)] (fun _ hS => (gK (hS.lies hg834) (gK (hS.lies hg844) (gK (hS.lies hg852) (gD (hS.lies hg862) (hS.lies hg869) (hS.lies hg877) (hS.lies hg884)))))) hI _ (bC g833 (bC (bndEq hc843) (bC g833 (bC g851 (bC (bndEq hc861) (bC g833 (bC g851 (bC (bndEq hc876) (bC g833 (bZ g851)))))))))) ?_
                      refine ho (n := 2) 43 rfl (ec (enter18 _) (assizeref03zSameVals_calls A880 c881 ((idx y96.1 x643).Base) A887 c888 ((idx y26.1 x643).Base) (memOf _) _ (Inv.start _) (hI.rd hr882) hl883 (hI.rd hr889) hl890 _ hy892) ?_)
                      rintro _ _ ⟨rfl, hI'⟩
                      replace hI := hI.call0 hI'
                      clear hI'
                      refine ⟨_, rfl, ?_⟩
                      refine ⟨hI, ?_⟩
                      refine hg (n := 0) [(44, .p), (45, .p)] (fun _ hS => gO) hI (hd ?_)
                      exact hJ831 (!y891) _ _ ⟨_, at_, hI⟩ H
            · refine ge hc645 ?_
              refine go_exit rfl ?_
              refine go_seq (go_seq (rp 1 (go_block ?_)))
              refine go_iter (assizelaw09zLocalAlone.s5 y26 y96) (fun x974 f w => ∃ (j : Nat → Value), f = updL j [(6, vS A30 y26.2.1.length c31), (10, vS A100 y96.2.1.length c101), (13, vI x974)] ∧ Inv M102 w [.row kSpot 53 A30 y26.2.1.length c31 y26.2.1, .row kSpot 53 A100 y96.2.1.length c101 y96.2.1]) H ⟨_, at_, hI⟩ ?_
              clear H hI
              rintro x974 _ _ o2 H ⟨_, rfl, hI⟩ hin2 hout2
              refine go_seq (go_seq (rp 4 ?_))
              replace H := cond_some H
              rcases H with ⟨hc976, H⟩ | ⟨hc976, H⟩
              · refine gt hc976 (go_skip (go_seq (go_block ?_)))
                refine go_seq_join (o := o2) (fun b996 f w => ∃ (j : Nat → Value), f = updL j [(6, vS A30 y26.2.1.length c31), (10, vS A100 y96.2.1.length c101), (13, vI x974), (140, vB b996)] ∧ Inv M102 w [.row kSpot 53 A30 y26.2.1.length c31 y26.2.1, .row kSpot 53 A100 y96.2.1.length c101 y96.2.1]) (fun b996 => assizelaw09zLocalAlone.j6 x974 b996) ?_ (fun hJ997 => ?_)
                · clear H hI
                  rintro b996 _ _ ⟨_, rfl, hI⟩ H
                  replace H := cond_some H
                  rcases H with ⟨hc998, H⟩ | ⟨hc998, H⟩
                  · refine gt hc998 (go_seq (rp 1 ?_))
                    replace H := out_some H
                    obtain ⟨_, H, he2⟩ := H
                    have he := (hout2 _ he2).symm
                    subst he
                    replace H := out_some H
                    obtain ⟨_, H, he1⟩ := H
                    have he := (hout1 _ he1).symm
                    subst he
                    replace H := Option.some.inj H
                    subst H
                    exact gr Try.func9 ⟨rfl, Inv.tail (hb35 _ _ (Inv.tail (hb105 _ _ (hI.pn))))⟩
                  · refine ge hc998 (go_skip (go_inBlock (rp 3 ?_)))
                    exact hin2 _ (Option.some.inj H).symm _ _ ⟨_, at_, hI⟩
                · replace H := must_some H
                  obtain ⟨g999, H⟩ := H
                  obtain ⟨b1000, rfl⟩ := hI.rowAt 1 rfl g999
                  replace H := cond_some H
                  rcases H with ⟨hc1001, H⟩ | ⟨hc1001, H⟩
                  · refine dx [.p, .p, .x, .p, .l 0 0, .p, .c true, .p, .p, .p, .p, .p, .p, .p, .p, .p, .p, .p, .p] (gA ((rdS.flook (hI.row 1 rfl) (hI.rowlen 1 rfl) g999).ok)) _ (bC g999 (bZ (bndEq hc1001))) hI ?_
                    clear hI
                    intro _ hI
                    exact hJ997 true _ _ ⟨_, at_, hI⟩ H
                  · replace H := must_some H
                    obtain ⟨g1002, H⟩ := H
                    obtain ⟨b1003, rfl⟩ := hI.rowAt 0 rfl g1002
                    refine dx [.p, .p, .x, .p, .l 0 0, .p, .c false, .p, .p, .x, .p, .l 0 1, .p, .p, .x, .p, .l 1 1, .p, .p] (gB ((rdS.flook (hI.row 1 rfl) (hI.rowlen 1 rfl) g999).ok) ((rdS.flook (hI.row 0 rfl) (hI.rowlen 0 rfl) g1002).ok)) _ (bC g999 (bC (bndEq hc1001) (bC g999 (bZ g1002)))) hI ?_
                    clear hI
                    intro _ hI
                    exact hJ997 ((idx y96.2.1 x974).Place != (idx y26.2.1 x974).Place) _ _ ⟨_, at_, hI⟩ H
              · refine ge hc976 ?_
                refine go_exit rfl ?_
                refine go_seq (rp 1 ?_)
                replace H := out_some H
                obtain ⟨_, H, he2⟩ := H
                have he := (hout2 _ he2).symm
                subst he
                replace H := out_some H
                obtain ⟨_, H, he1⟩ := H
                have he := (hout1 _ he1).symm
                subst he
                replace H := Option.some.inj H
                subst H
                exact gr Try.func9 ⟨rfl, Inv.tail (hb35 _ _ (Inv.tail (hb105 _ _ (hI.pn))))⟩
        · refine r_in ?_
          replace H := cond_some H
          rcases H with ⟨hc1004, H⟩ | ⟨hc1004, H⟩
          · refine bx 0 [.p, .p, .c true, .p, .p, .p, .p, .p, .p, .p, .p, .p, .p, .p, .p, .p] gO _ (bZ (bndEq hc1004)) (ro ?_)
            exact hJ120 true _ _ ⟨_, at_, hI.pick [0, 2] (by decide) rfl⟩ H
          · replace H := cond_some H
            rcases H with ⟨hc1005, H⟩ | ⟨hc1005, H⟩
            · refine bx 0 [.p, .p, .c false, .p, .p, .p, .p, .p, .p, .c true, .p, .p, .p, .p, .p, .p] gO _ (bC (bndEq hc1004) (bZ (bndEq hc1005))) (ro ?_)
              exact hJ120 true _ _ ⟨_, at_, hI.pick [0, 2] (by decide) rfl⟩ H
            · refine bx 0 [.p, .p, .c false, .p, .p, .p, .p, .p, .p, .c false, .p, .p, .p, .p, .p, .p] gO _ (bC (bndEq hc1004) (bZ (bndEq hc1005))) (ro ?_)
              exact hJ120 ((y96.2.1.length : Int) != (y26.2.1.length : Int)) _ _ ⟨_, at_, hI.pick [0, 2] (by decide) rfl⟩ H
      · replace H := must_some H
        obtain ⟨g1006, H⟩ := H
        refine go_held (fun w => Inv M32 w [.blk b2 40 [vS A0z0 a0.Keys.length c0z0, vS A0z1 a0.Txns.length c0z1], .row kSpot 53 A30 y26.2.1.length c31 y26.2.1]) (by kernel_rfl) ?_
        replace hI := hI.drew'
        refine hg (n := 4) [(0, .p), (1, .l 0 0), (2, .p), (3, .l 0 1), (4, .p), (5, .p), (6, .p)] (fun _ hS => (gA (hS.grp 0 rfl))) hI ?_
        refine held_each (n := 3) [7, 9] (by simp) (by kernel_rfl) ⟨⟨_, rfl, by kernel_rfl, ?_⟩, ⟨_, rfl, by kernel_rfl, ?_⟩, trivial⟩
        · refine (e_slice_ro kTxn _ 38 61 _ _ _ _ A0z1 c0z1 a0.Txns .i64 .i64 a1 (w64 (a1 + 1)) rfl (by kernel_rfl) (by kernel_rfl) (by kernel_rfl) rfl rfl rfl hf40 hl0z1 g1006 ?_)
          intro A1017 c1018 hr1019 hl1020
          refine ⟨hI, ?_⟩
          refine hg (n := 2) [(8, .p)] (fun _ hS => gO) hI ?_
          refine ho (n := 1) 9 rfl (e_alloc 40 (.agg #[vS none 0 0, vS none 0 0]) [vS none 0 0, vS none 0 0] rfl (by kernel_rfl) rfl hI ?_)
          clear hI
          intro b1022 _ hI
          refine ⟨(hI.pk [0, 1]), ?_⟩
          refine ho (n := 0) 10 rfl (e_store 40 _ _ 2 b1022 40 [vS none 0 0, vS none 0 0] [vS A0z0 a0.Keys.length c0z0, vS A1017 ((subl a0.Txns a1 (w64 (a1 + 1))).length) c1018] 0 (.agg #[vS A0z0 a0.Keys.length c0z0, vS A1017 ((subl a0.Txns a1 (w64 (a1 + 1))).length) c1018]) rfl (by kernel_rfl) (by kernel_rfl) (by kernel_rfl) (by kernel_rfl) hI rfl (by kernel_rfl) (by kernel_rfl) ?_)
          clear hI
          intro _ hI
          refine ⟨(hI.pk [0, 1]), ?_⟩
          refine hd ?_
          exact hJ78 () _ _ ⟨_, b1022, A1017, c1018, at_, hr1019, hl1020, hI.pick [1, 2] (by decide) rfl⟩ H
        · refine (e_alloc 40 (.agg #[vS none 0 0, vS none 0 0]) [vS none 0 0, vS none 0 0] rfl (by kernel_rfl) rfl hI ?_)
          clear hI
          intro b1023 _ hI
          refine ⟨(hI.pk [0, 1]), ?_⟩
          refine ho (n := 2) 7 rfl (e_slice_ro kTxn _ 38 61 _ _ _ _ A0z1 c0z1 a0.Txns .i64 .i64 a1 (w64 (a1 + 1)) rfl (by kernel_rfl) (by kernel_rfl) (by kernel_rfl) rfl rfl rfl hf40 hl0z1 g1006 ?_)
          intro A1028 c1029 hr1030 hl1031
          refine ⟨(hI.pk [0, 1]), ?_⟩
          refine hg (n := 1) [(8, .p)] (fun _ hS => gO) (hI.pk [0, 1]) ?_
          refine ho (n := 0) 10 rfl (e_store 40 _ _ 2 b1023 40 [vS none 0 0, vS none 0 0] [vS A0z0 a0.Keys.length c0z0, vS A1028 ((subl a0.Txns a1 (w64 (a1 + 1))).length) c1029] 0 (.agg #[vS A0z0 a0.Keys.length c0z0, vS A1028 ((subl a0.Txns a1 (w64 (a1 + 1))).length) c1029]) rfl (by kernel_rfl) (by kernel_rfl) (by kernel_rfl) (by kernel_rfl) hI rfl (by kernel_rfl) (by kernel_rfl) ?_)
          clear hI
          intro _ hI
          refine ⟨(hI.pk [0, 1]), ?_⟩
          refine hd ?_
          exact hJ78 () _ _ ⟨_, b1023, A1028, c1029, at_, hr1030, hl1031, hI.pick [1, 2] (by decide) rfl⟩ H

/-! ### local_all -/
theorem enter45 (a : Array Value) : Sem.pureRun Try.prog (callFunc 45 a) = some (.enter 45 a) := by kernel_rfl
theorem local_all_calls (a0 : History) (A0z0 : Option Addr) (c0z0 : Nat) (A0z1 : Option Addr) (c0z1 : Nat) (M : Mem) (w : World) (hI : Inv M w []) (hr0z0 : rdS tStr M.blk A0z0 a0.Keys) (hl0z0 : a0.Keys.length ≤ c0z0) (hr0z1 : rdS kTxn M.blk A0z1 a0.Txns) (hl0z1 : a0.Txns.length ≤ c0z1) (r : LocalFound × Int) (H : local_all a0 = some r) :
    Calls Try.prog 45 #[.agg #[vS A0z0 a0.Keys.length c0z0, vS A0z1 a0.Txns.length c0z1]] w fun e w' => ∃ (A273 : Option Addr), ∃ (c274 : Nat), ∃ (A275 : Option Addr), ∃ (c276 : Nat), e = .returned (.tuple #[.agg #[vS A273 r.1.asks.length c274, vS A275 r.1.bad.length c276], vI r.2]) ∧ Inv M w' [.row kAsk 51 A273 r.1.asks.length c274 r.1.asks, .row kSpot 53 A275 r.1.bad.length c276 r.1.bad] := by
  refine cg Try.func45 ?_
  intro cs
  unfold local_all at H
  refine go_seq (r_in (oe 0 rfl ?_))
  refine e_box 40 _ (.agg #[vS A0z0 a0.Keys.length c0z0, vS A0z1 a0.Txns.length c0z1]) [vS A0z0 a0.Keys.length c0z0, vS A0z1 a0.Txns.length c0z1] rfl (by kernel_rfl) rfl hI ?_
  clear hI
  intro b3 _ hI
  refine oe 1 rfl ?_
  refine e_alloc 75 (.agg #[vS none 0 0, vS none 0 0]) [vS none 0 0, vS none 0 0] rfl (by kernel_rfl) rfl hI ?_
  clear hI
  intro b4 _ hI
  refine bp 2 1 (ro (go_seq (r_in (oe 0 rfl ?_))))
  refine e_alloc 75 (.agg #[vS none 0 0, vS none 0 0]) [vS none 0 0, vS none 0 0] rfl (by kernel_rfl) rfl hI ?_
  clear hI
  intro b6 _ hI
  refine ro (go_seq (go_seq (r_in (bg 0 [.l 0 0] (gA (hI.grp 0 rfl)) ?_))))
  replace H := bind_some H
  obtain ⟨y12, hy13, H⟩ := H
  refine oe 1 rfl ?_
  refine ec (enter41 _) (index_Check_calls a0 A0z0 c0z0 A0z1 c0z1 (memOf _) _ (Inv.start _) (hI.rd hr0z0) hl0z0 (hI.rd hr0z1) hl0z1 _ hy13) ?_
  rintro _ _ ⟨rfl, hI'⟩
  replace hI := hI.call0 hI'
  clear hI'
  refine ⟨_, rfl, ?_⟩
  refine bp 2 1 (ro (go_seq (rp 2 ?_)))
  replace H := cond_some H
  rcases H with ⟨hc14, H⟩ | ⟨hc14, H⟩
  · refine gt hc14 (go_seq (r_in (bg 0 [.l 0 0, .p] (gA (hI.grp 2 rfl)) (oe 2 rfl ?_))))
    refine e_store 75 _ _ 1 b4 75 [vS none 0 0, vS none 0 0] [vS none 0 0, vS none 0 0] 0 (.agg #[vS none 0 0, vS none 0 0]) rfl (by kernel_rfl) (by kernel_rfl) (by kernel_rfl) (by kernel_rfl) hI rfl (by kernel_rfl) (by kernel_rfl) ?_
    clear hI
    intro _ hI
    refine bp 3 1 (ro ?_)
    replace H := Option.some.inj H
    subst H
    exact go_return_c [(b4, 0, [vS none 0 0, vS none 0 0])] [.c 0, .t] [.agg #[vS none 0 0, vS none 0 0], vI y12] (.tuple #[.agg #[vS none 0 0, vS none 0 0], vI y12]) Try.func45 ⟨(hI.grp 1 rfl), trivial⟩ (by kernel_rfl) (by kernel_rfl) (by kernel_rfl) (by kernel_rfl) ⟨none, 0, none, 0, rfl, ((hI.nilrow kAsk 51).nilrow kSpot 53).pick [3, 4] (by decide) rfl⟩
  · refine ge hc14 (go_skip (go_seq (go_seq (rg [.p, .l 0 1, .p, .p] (gA (hI.grp 0 rfl)) (go_block ?_)))))
    refine go_iter (local_all.s1 a0) (fun (l230, l233, x236) f w => ∃ (j : Nat → Value) (A231 : Option Addr) (c232 : Nat) (A234 : Option Addr) (c235 : Nat), f = updL j [(1, vP b3 0), (2, vP b4 0), (4, vP b6 0), (15, vI (a0.Txns.length : Int)), (16, vI x236)] ∧ Inv M w [.blk b3 40 [vS A0z0 a0.Keys.length c0z0, vS A0z1 a0.Txns.length c0z1], .blk b4 75 [vS none 0 0, vS none 0 0], .blk b6 75 [vS A231 l230.length c232, vS A234 l233.length c235], .row kAsk 51 A231 l230.length c232 l230, .row kSpot 53 A234 l233.length c235 l233]) H ⟨_, none, 0, none, 0, at_, ((hI.nilrow kAsk 51).nilrow kSpot 53)⟩ ?_
    clear H hI
    rintro ⟨l230, l233, x236⟩ _ _ o1 H ⟨_, A231, c232, A234, c235, rfl, hI⟩ hin1 hout1
    refine go_seq (rp 1 (go_seq ?_))
    replace H := cond_some H
    rcases H with ⟨hc238, H⟩ | ⟨hc238, H⟩
    · refine gt hc238 (go_skip (go_seq (go_block (go_seq (rp 2 (r_in (bg 0 [.l 0 0, .p] (gA (hI.grp 0 rfl)) ?_)))))))
      replace H := bind_some H
      obtain ⟨y266, hy267, H⟩ := H
      obtain ⟨M261, hJ262, hs263, hro264, hback265⟩ := hI.call (R := [.blk b6 75 [vS A231 l230.length c232, vS A234 l233.length c235], .row kAsk 51 A231 l230.length c232 l230, .row kSpot 53 A234 l233.length c235 l233]) (L0 := [.blk b3 40 [vS A0z0 a0.Keys.length c0z0, vS A0z1 a0.Txns.length c0z1], .blk b4 75 [vS none 0 0, vS none 0 0]]) [2, 3, 4] [0, 1] (by decide) rfl
      refine oe 2 rfl ?_
      refine ec (enter42 _) (local_found_look_calls b6 (⟨l230, l233⟩ : LocalFound) A231 c232 A234 c235 a0 A0z0 c0z0 A0z1 c0z1 x236 M261 _ hJ262 (rdS.mono hr0z0 hs263) hl0z0 (rdS.mono hr0z1 hs263) hl0z1 _ hy267) ?_
      rintro _ _ ⟨A268, c269, A270, c271, rfl, hI'⟩
      replace hI := hback265 _ _ hI'
      clear hI'
      refine ⟨_, rfl, ?_⟩
      refine ro (go_inBlock (rp 2 ?_))
      exact hin1 _ (Option.some.inj H).symm _ _ ⟨_, A268, c269, A270, c271, at_, hI.pick [3, 4, 0, 1, 2] (by decide) rfl⟩
    · refine ge hc238 ?_
      refine go_exit rfl ?_
      refine go_seq (r_in (bg 0 [.l 0 0] (gA (hI.grp 2 rfl)) (oe 1 rfl ?_)))
      refine e_store 75 _ _ 1 b4 75 [vS none 0 0, vS none 0 0] [vS A231 l230.length c232, vS A234 l233.length c235] 0 (.agg #[vS A231 l230.length c232, vS A234 l233.length c235]) rfl (by kernel_rfl) (by kernel_rfl) (by kernel_rfl) (by kernel_rfl) hI rfl (by kernel_rfl) (by kernel_rfl) ?_
      clear hI
      intro _ hI
      refine bp 2 1 (ro ?_)
      replace H := out_some H
      obtain ⟨_, H, he1⟩ := H
      have he := (hout1 _ he1).symm
      subst he
      replace H := Option.some.inj H
      subst H
      exact go_return_c [(b4, 0, [vS A231 l230.length c232, vS A234 l233.length c235])] [.c 0, .t] [.agg #[vS A231 l230.length c232, vS A234 l233.length c235], vI 0] (.tuple #[.agg #[vS A231 l230.length c232, vS A234 l233.length c235], vI 0]) Try.func45 ⟨(hI.grp 1 rfl), trivial⟩ (by kernel_rfl) (by kernel_rfl) (by kernel_rfl) (by kernel_rfl) ⟨A231, c232, A234, c235, rfl, hI.pick [3, 4] (by decide) rfl⟩

/-! ### local_Asks -/
theorem enter33 (a : Array Value) : Sem.pureRun Try.prog (callFunc 33 a) = some (.enter 33 a) := by kernel_rfl
theorem local_Asks_calls (a0 : History) (A0z0 : Option Addr) (c0z0 : Nat) (A0z1 : Option Addr) (c0z1 : Nat) (M : Mem) (w : World) (hI : Inv M w []) (hr0z0 : rdS tStr M.blk A0z0 a0.Keys) (hl0z0 : a0.Keys.length ≤ c0z0) (hr0z1 : rdS kTxn M.blk A0z1 a0.Txns) (hl0z1 : a0.Txns.length ≤ c0z1) (r : List Ask × Int) (H : local_Asks a0 = some r) :
    Calls Try.prog 33 #[.agg #[vS A0z0 a0.Keys.length c0z0, vS A0z1 a0.Txns.length c0z1]] w fun e w' => ∃ (A18 : Option Addr), ∃ (c19 : Nat), e = .returned (.tuple #[vS A18 r.1.length c19, vI r.2]) ∧ Inv M w' [.row kAsk 51 A18 r.1.length c19 r.1] := by
  refine cg Try.func33 ?_
  intro cs
  unfold local_Asks at H
  refine go_seq (r_in (oe 0 rfl ?_))
  refine e_box 40 _ (.agg #[vS A0z0 a0.Keys.length c0z0, vS A0z1 a0.Txns.length c0z1]) [vS A0z0 a0.Keys.length c0z0, vS A0z1 a0.Txns.length c0z1] rfl (by kernel_rfl) rfl hI ?_
  clear hI
  intro b2 _ hI
  refine bp 1 2 (ro (go_seq (r_in (bg 0 [.l 0 0] (gA (hI.grp 0 rfl)) ?_))))
  replace H := bind_some H
  obtain ⟨y10, hy11, H⟩ := H
  refine oe 1 rfl ?_
  refine ec (enter45 _) (local_all_calls a0 A0z0 c0z0 A0z1 c0z1 (memOf _) _ (Inv.start _) (hI.rd hr0z0) hl0z0 (hI.rd hr0z1) hl0z1 _ hy11) ?_
  rintro _ _ ⟨A12, c13, A14, c15, rfl, hI'⟩
  replace hI := hI.call0 hI'
  clear hI'
  refine ⟨_, rfl, ?_⟩
  refine bp 2 3 (oe 5 rfl ?_)
  refine e_alloc 75 (.agg #[vS none 0 0, vS none 0 0]) [vS none 0 0, vS none 0 0] rfl (by kernel_rfl) rfl hI ?_
  clear hI
  intro b16 _ hI
  refine oe 6 rfl ?_
  refine e_store 75 _ _ 3 b16 75 [vS none 0 0, vS none 0 0] [vS A12 y10.1.asks.length c13, vS A14 y10.1.bad.length c15] 0 (.agg #[vS A12 y10.1.asks.length c13, vS A14 y10.1.bad.length c15]) rfl (by kernel_rfl) (by kernel_rfl) (by kernel_rfl) (by kernel_rfl) hI rfl (by kernel_rfl) (by kernel_rfl) ?_
  clear hI
  intro _ hI
  refine bp 7 1 (ro (go_seq (rg [.p, .l 0 0, .p, .p, .p] (gA (hI.grp 3 rfl)) ?_)))
  replace H := Option.some.inj H
  subst H
  exact gr Try.func33 ⟨A12, c13, rfl, hI.pick [1] (by decide) rfl⟩

/-! ### assizeref09zAll -/
theorem enter46 (a : Array Value) : Sem.pureRun Try.prog (callFunc 46 a) = some (.enter 46 a) := by kernel_rfl
theorem assizeref09zAll_calls (a0 : History) (A0z0 : Option Addr) (c0z0 : Nat) (A0z1 : Option Addr) (c0z1 : Nat) (M : Mem) (w : World) (hI : Inv M w []) (hr0z0 : rdS tStr M.blk A0z0 a0.Keys) (hl0z0 : a0.Keys.length ≤ c0z0) (hr0z1 : rdS kTxn M.blk A0z1 a0.Txns) (hl0z1 : a0.Txns.length ≤ c0z1) (r : List Ask × List Spot) (H : assizeref09zAll a0 = some r) :
    Calls Try.prog 46 #[.agg #[vS A0z0 a0.Keys.length c0z0, vS A0z1 a0.Txns.length c0z1]] w fun e w' => ∃ (A281 : Option Addr), ∃ (c282 : Nat), ∃ (A283 : Option Addr), ∃ (c284 : Nat), e = .returned (.tuple #[vS A281 r.1.length c282, vS A283 r.2.length c284]) ∧ Inv M w' [.row kAsk 51 A281 r.1.length c282 r.1, .row kSpot 53 A283 r.2.length c284 r.2] := by
  refine cg Try.func46 ?_
  intro cs
  unfold assizeref09zAll at H
  refine go_seq (r_in (oe 0 rfl ?_))
  refine e_box 40 _ (.agg #[vS A0z0 a0.Keys.length c0z0, vS A0z1 a0.Txns.length c0z1]) [vS A0z0 a0.Keys.length c0z0, vS A0z1 a0.Txns.length c0z1] rfl (by kernel_rfl) rfl hI ?_
  clear hI
  intro b2 _ hI
  refine bp 1 2 (ro (go_seq (rp 1 (go_seq (rp 1 (go_seq (go_seq (rp 1 (go_block ?_)))))))))
  refine go_iter (assizeref09zAll.s1 a0) (fun (l226, l229, x232) f w => ∃ (j : Nat → Value) (A227 : Option Addr) (c228 : Nat) (A230 : Option Addr) (c231 : Nat), f = updL j [(1, vP b2 0), (4, vS A227 l226.length c228), (5, vS A230 l229.length c231), (6, vI x232)] ∧ Inv M w [.blk b2 40 [vS A0z0 a0.Keys.length c0z0, vS A0z1 a0.Txns.length c0z1], .row kAsk 51 A227 l226.length c228 l226, .row kSpot 53 A230 l229.length c231 l229]) H ⟨_, none, 0, none, 0, at_, ((hI.nilrow kAsk 51).nilrow kSpot 53)⟩ ?_
  clear H hI
  rintro ⟨l226, l229, x232⟩ _ _ o1 H ⟨_, A227, c228, A230, c231, rfl, hI⟩ hin1 hout1
  refine go_seq (go_seq (rg [.p, .p, .l 0 1, .p, .p] (gA (hI.grp 0 rfl)) ?_))
  replace H := cond_some H
  rcases H with ⟨hc234, H⟩ | ⟨hc234, H⟩
  · refine gt hc234 (go_skip (go_seq (go_block (go_seq (r_in (bg 0 [.l 0 0, .p] (gA (hI.grp 0 rfl)) ?_))))))
    replace H := bind_some H
    obtain ⟨y265, hy266, H⟩ := H
    refine oe 2 rfl ?_
    refine ec (enter44 _) (assizeref09zof_calls a0 A0z0 c0z0 A0z1 c0z1 x232 (memOf _) _ (Inv.start _) (hI.rd hr0z0) hl0z0 (hI.rd hr0z1) hl0z1 _ hy266) ?_
    rintro _ _ ⟨A267, c268, A269, c270, rfl, hI'⟩
    replace hI := hI.call0 hI'
    clear hI'
    refine ⟨_, rfl, ?_⟩
    refine bp 3 5 (ro (go_seq (r_in (bp 0 2 ?_))))
    replace H := must_some H
    obtain ⟨g274, H⟩ := H
    refine oe 2 rfl ?_
    refine e_append_move kAsk 42 0 51 _ _ _ _ A227 A267 l226.length c228 y265.1.length c268 l226 y265.1 1 3 [0, 2, 4] [.blk b2 40 [vS A0z0 a0.Keys.length c0z0, vS A0z1 a0.Txns.length c0z1], .row kSpot 53 A230 l229.length c231 l229, .row kSpot 53 A269 y265.2.length c270 y265.2] rfl (by kernel_rfl) (by kernel_rfl) rfl rfl rfl rfl rfl (by kernel_rfl) hI (by decide) rfl g274 ?_
    clear hI
    intro A275 c276 _ hI
    refine bp 3 1 (ro (r_in (bp 0 2 ?_)))
    replace H := must_some H
    obtain ⟨g277, H⟩ := H
    refine oe 2 rfl ?_
    refine e_append_rd (kt := kSpot) 43 0 53 _ _ _ _ A230 A269 l229.length c231 l229 y265.2 c270 2 [0, 1, 3] [.row kAsk 51 A275 ((l226 ++ y265.1).length) c276 (l226 ++ y265.1), .blk b2 40 [vS A0z0 a0.Keys.length c0z0, vS A0z1 a0.Txns.length c0z1], .row kSpot 53 A269 y265.2.length c270 y265.2] rfl (by kernel_rfl) (by kernel_rfl) rfl rfl rfl rfl rfl (by kernel_rfl) hI (by decide) rfl (hI.row 3 rfl) g277 ?_
    clear hI
    intro A278 c279 _ hI
    refine bp 3 1 (ro (go_inBlock (rp 3 ?_)))
    exact hin1 _ (Option.some.inj H).symm _ _ ⟨_, A275, c276, A278, c279, at_, hI.pick [2, 1, 0] (by decide) rfl⟩
  · refine ge hc234 ?_
    refine go_exit rfl ?_
    refine go_seq (rp 4 ?_)
    replace H := out_some H
    obtain ⟨_, H, he1⟩ := H
    have he := (hout1 _ he1).symm
    subst he
    replace H := Option.some.inj H
    subst H
    exact gr Try.func46 ⟨A227, c228, A230, c231, rfl, hI.pick [1, 2] (by decide) rfl⟩

/-! ### assizeref09zAsks -/
theorem enter34 (a : Array Value) : Sem.pureRun Try.prog (callFunc 34 a) = some (.enter 34 a) := by kernel_rfl
theorem assizeref09zAsks_calls (a0 : History) (A0z0 : Option Addr) (c0z0 : Nat) (A0z1 : Option Addr) (c0z1 : Nat) (M : Mem) (w : World) (hI : Inv M w []) (hr0z0 : rdS tStr M.blk A0z0 a0.Keys) (hl0z0 : a0.Keys.length ≤ c0z0) (hr0z1 : rdS kTxn M.blk A0z1 a0.Txns) (hl0z1 : a0.Txns.length ≤ c0z1) (r : List Ask × Int) (H : assizeref09zAsks a0 = some r) :
    Calls Try.prog 34 #[.agg #[vS A0z0 a0.Keys.length c0z0, vS A0z1 a0.Txns.length c0z1]] w fun e w' => ∃ (A24 : Option Addr), ∃ (c25 : Nat), e = .returned (.tuple #[vS A24 r.1.length c25, vI r.2]) ∧ Inv M w' [.row kAsk 51 A24 r.1.length c25 r.1] := by
  refine cg Try.func34 ?_
  intro cs
  unfold assizeref09zAsks at H
  refine go_seq (r_in (oe 0 rfl ?_))
  refine e_box 40 _ (.agg #[vS A0z0 a0.Keys.length c0z0, vS A0z1 a0.Txns.length c0z1]) [vS A0z0 a0.Keys.length c0z0, vS A0z1 a0.Txns.length c0z1] rfl (by kernel_rfl) rfl hI ?_
  clear hI
  intro b2 _ hI
  refine bp 1 2 (ro (go_seq (go_seq (r_in (bg 0 [.l 0 0] (gA (hI.grp 0 rfl)) ?_)))))
  replace H := bind_some H
  obtain ⟨y8, hy9, H⟩ := H
  refine oe 1 rfl ?_
  refine ec (enter43 _) (assizeref05zCheck_calls a0 A0z0 c0z0 A0z1 c0z1 (memOf _) _ (Inv.start _) (hI.rd hr0z0) hl0z0 (hI.rd hr0z1) hl0z1 _ hy9) ?_
  rintro _ _ ⟨rfl, hI'⟩
  replace hI := hI.call0 hI'
  clear hI'
  refine ⟨_, rfl, ?_⟩
  refine bp 2 1 (ro ?_)
  replace H := cond_some H
  rcases H with ⟨hc10, H⟩ | ⟨hc10, H⟩
  · refine gt hc10 (go_seq (rp 2 ?_))
    replace H := Option.some.inj H
    subst H
    exact gr Try.func34 ⟨none, 0, rfl, (hI.nilrow kAsk 51).pick [1] (by decide) rfl⟩
  · refine ge hc10 (go_skip (go_seq (r_in (bg 0 [.l 0 0] (gA (hI.grp 0 rfl)) ?_))))
    replace H := bind_some H
    obtain ⟨y17, hy18, H⟩ := H
    refine oe 1 rfl ?_
    refine ec (enter46 _) (assizeref09zAll_calls a0 A0z0 c0z0 A0z1 c0z1 (memOf _) _ (Inv.start _) (hI.rd hr0z0) hl0z0 (hI.rd hr0z1) hl0z1 _ hy18) ?_
    rintro _ _ ⟨A19, c20, A21, c22, rfl, hI'⟩
    replace hI := hI.call0 hI'
    clear hI'
    refine ⟨_, rfl, ?_⟩
    refine bp 2 5 (ro (go_seq (rp 3 ?_)))
    replace H := Option.some.inj H
    subst H
    exact gr Try.func34 ⟨A19, c20, rfl, hI.pick [1] (by decide) rfl⟩

/-! ### local_Bad -/
theorem enter35 (a : Array Value) : Sem.pureRun Try.prog (callFunc 35 a) = some (.enter 35 a) := by kernel_rfl
theorem local_Bad_calls (a0 : History) (A0z0 : Option Addr) (c0z0 : Nat) (A0z1 : Option Addr) (c0z1 : Nat) (M : Mem) (w : World) (hI : Inv M w []) (hr0z0 : rdS tStr M.blk A0z0 a0.Keys) (hl0z0 : a0.Keys.length ≤ c0z0) (hr0z1 : rdS kTxn M.blk A0z1 a0.Txns) (hl0z1 : a0.Txns.length ≤ c0z1) (r : List Spot × Int) (H : local_Bad a0 = some r) :
    Calls Try.prog 35 #[.agg #[vS A0z0 a0.Keys.length c0z0, vS A0z1 a0.Txns.length c0z1]] w fun e w' => ∃ (A18 : Option Addr), ∃ (c19 : Nat), e = .returned (.tuple #[vS A18 r.1.length c19, vI r.2]) ∧ Inv M w' [.row kSpot 53 A18 r.1.length c19 r.1] := by
  refine cg Try.func35 ?_
  intro cs
  unfold local_Bad at H
  refine go_seq (r_in (oe 0 rfl ?_))
  refine e_box 40 _ (.agg #[vS A0z0 a0.Keys.length c0z0, vS A0z1 a0.Txns.length c0z1]) [vS A0z0 a0.Keys.length c0z0, vS A0z1 a0.Txns.length c0z1] rfl (by kernel_rfl) rfl hI ?_
  clear hI
  intro b2 _ hI
  refine bp 1 2 (ro (go_seq (r_in (bg 0 [.l 0 0] (gA (hI.grp 0 rfl)) ?_))))
  replace H := bind_some H
  obtain ⟨y10, hy11, H⟩ := H
  refine oe 1 rfl ?_
  refine ec (enter45 _) (local_all_calls a0 A0z0 c0z0 A0z1 c0z1 (memOf _) _ (Inv.start _) (hI.rd hr0z0) hl0z0 (hI.rd hr0z1) hl0z1 _ hy11) ?_
  rintro _ _ ⟨A12, c13, A14, c15, rfl, hI'⟩
  replace hI := hI.call0 hI'
  clear hI'
  refine ⟨_, rfl, ?_⟩
  refine bp 2 3 (oe 5 rfl ?_)
  refine e_alloc 75 (.agg #[vS none 0 0, vS none 0 0]) [vS none 0 0, vS none 0 0] rfl (by kernel_rfl) rfl hI ?_
  clear hI
  intro b16 _ hI
  refine oe 6 rfl ?_
  refine e_store 75 _ _ 3 b16 75 [vS none 0 0, vS none 0 0] [vS A12 y10.1.asks.length c13, vS A14 y10.1.bad.length c15] 0 (.agg #[vS A12 y10.1.asks.length c13, vS A14 y10.1.bad.length c15]) rfl (by kernel_rfl) (by kernel_rfl) (by kernel_rfl) (by kernel_rfl) hI rfl (by kernel_rfl) (by kernel_rfl) ?_
  clear hI
  intro _ hI
  refine bp 7 1 (ro (go_seq (rg [.p, .l 0 1, .p, .p, .p] (gA (hI.grp 3 rfl)) ?_)))
  replace H := Option.some.inj H
  subst H
  exact gr Try.func35 ⟨A14, c15, rfl, hI.pick [2] (by decide) rfl⟩

end Go.Proofs.YtmfihodpbladeaaT
