/- The walks, part 3: each call computes its plain function. -/
import Derived.Test.YtncapkloanfmnaaDoorTW2
import Derived.Shelf.Spec.TrailingZeros
import Derived.Test.YtncapkloanfmnaaDoorProg
namespace Go.Proofs.YtncapkloanfmnaaDoorT
open Go Go.Proofs Go.Shelf Go.Proofs.YtncapkloanfmnaaDoorE
set_option linter.unusedVariables false
set_option linter.unusedSimpArgs false
set_option maxHeartbeats 0
set_option maxRecDepth 4096
/-! ### graph.Parts -/
theorem enter23 (a : Array Value) : Sem.pureRun Tryd.prog (callFunc 23 a) = some (.enter 23 a) := by kernel_rfl
theorem graph_Parts_calls (a0 : Graph) (A0z0 : Option Addr) (c0z0 : Nat) (a1 : Int) (M : Mem) (w : World) (hI : Inv M w []) (hT : TabM M.blk) (hr0z0 : rdS kEdge M.blk A0z0 a0.Edges) (hl0z0 : a0.Edges.length ≤ c0z0) (r : List Int × Int) (H : graph_Parts a0 a1 = some r) :
    Calls Tryd.prog 23 #[.agg #[.int .i64 a0.N, .slice A0z0 a0.Edges.length c0z0], .int .i64 a1] w fun e w' => ∃ (A1192 : Option Addr) (c1193 : Nat), e = .returned (.tuple #[.slice A1192 r.1.length c1193, .int .i64 r.2]) ∧ Inv M w' [.row (tInt .i64) 3 A1192 r.1.length c1193 r.1] := by
  refine calls_go (updL (fun _ => undef) [(0, .agg #[.int .i64 a0.N, .slice A0z0 a0.Edges.length c0z0]), (1, .int .i64 a1)]) Tryd.func23 rfl (by kernel_rfl) ?_
  intro cs
  unfold graph_Parts at H
  refine go_seq ?_
  refine r_in ?_
  refine o_eff 0 _ rfl (by kernel_rfl) ?_
  refine e_box 24 _ (.agg #[.int .i64 a0.N, .slice A0z0 a0.Edges.length c0z0]) [.int .i64 a0.N, .slice A0z0 a0.Edges.length c0z0] rfl (by kernel_rfl) rfl hI ?_
  clear hI
  intro b2 _ hI
  refine o_batch 1 [] [.p, .p] [(4, .slice none 0 0), (5, .int .i64 0)] [] trivial trivial (by kernel_rfl) (by kernel_rfl) (by kernel_rfl) ?_
  refine r_out (by kernel_rfl) ?_
  refine go_seq ?_
  refine go_seq ?_
  refine r_in ?_
  refine o_batch 0 [(b2, 0, [.int .i64 a0.N, .slice A0z0 a0.Edges.length c0z0])] [.l 0 0] [(9, .agg #[.int .i64 a0.N, .slice A0z0 a0.Edges.length c0z0])] [] ⟨(hI.grp 0 rfl), trivial⟩ trivial (by kernel_rfl) (by kernel_rfl) (by kernel_rfl) ?_
  replace H := bind_some H
  obtain ⟨y8, hy9, H⟩ := H
  refine o_eff 1 _ rfl (by kernel_rfl) ?_
  refine e_callf _ _ _ 18 #[] #[] #[.agg #[.int .i64 a0.N, .slice A0z0 a0.Edges.length c0z0]] #[.agg #[.int .i64 a0.N, .slice A0z0 a0.Edges.length c0z0]] rfl (by kernel_rfl) (by kernel_rfl) (by kernel_rfl) (enter18 _) (graph_Check_calls a0 A0z0 c0z0 (memOf _) _ (Inv.start _) (hI.rd hr0z0) hl0z0 _ hy9) ?_
  rintro _ _ ⟨rfl, hI'⟩
  replace hI := hI.call0 hI'
  clear hI'
  refine ⟨_, rfl, ?_⟩
  refine o_batch 2 [] [.p] [(6, .int .i64 y8)] [] trivial trivial (by kernel_rfl) (by kernel_rfl) (by kernel_rfl) ?_
  refine r_out (by kernel_rfl) ?_
  refine go_seq ?_
  refine r_in ?_
  refine o_batch 0 [] [.p, .p] [(11, .int .i64 y8), (12, .bool (y8 != 0))] [] trivial trivial (by kernel_rfl) (by kernel_rfl) (by kernel_rfl) ?_
  refine r_out (by kernel_rfl) ?_
  replace H := cond_some H
  rcases H with ⟨hc10, H⟩ | ⟨hc10, H⟩
  · refine go_then' (t := (y8 != 0)) (by kernel_rfl) hc10 ?_
    refine go_seq ?_
    refine r_in ?_
    refine o_batch 0 [] [.p, .p, .p] [(13, .int .i64 y8), (4, .slice none 0 0), (5, .int .i64 y8)] [] trivial trivial (by kernel_rfl) (by kernel_rfl) (by kernel_rfl) ?_
    refine r_out (by kernel_rfl) ?_
    replace H := Option.some.inj H
    subst H
    exact go_return (.tuple #[.slice none 0 0, .int .i64 y8]) Tryd.func23 (by kernel_rfl) ⟨none, 0, rfl, (hI.nilrow (tInt .i64) 3).pick [1] (by decide) rfl⟩
  · refine go_else' (t := (y8 != 0)) (by kernel_rfl) hc10 ?_
    refine go_skip ?_
    refine go_seq_join (o := r) (fun l229 f w => ∃ (j : Nat → Value) (b228 : Nat) (A230 : Option Addr) (c231 : Nat) (A232 : Option Addr) (c233 : Nat) (A234 : Option Addr) (c235 : Nat) (A236 : Option Addr) (c237 : Nat), f = updL j [(2, .pointer (some ⟨b2, 0, none⟩)), (7, .pointer (some ⟨b228, 0, none⟩))] ∧ Inv M w [.blk b2 24 [.int .i64 a0.N, .slice A0z0 a0.Edges.length c0z0], .blk b228 65 [.slice A230 l229.length c231, .slice A232 ((List.replicate a0.N.toNat (default : Int)).length) c233, .slice A234 ((List.replicate a0.N.toNat (default : Int)).length) c235, .slice A236 ((List.replicate a0.N.toNat (default : Int)).length) c237, .slice none 0 0, .int .i64 0, .int .i64 0], .row (tInt .u64) 54 A230 l229.length c231 l229, .row (tInt .i64) 3 A232 ((List.replicate a0.N.toNat (default : Int)).length) c233 (List.replicate a0.N.toNat (default : Int)), .row (tInt .i64) 3 A234 ((List.replicate a0.N.toNat (default : Int)).length) c235 (List.replicate a0.N.toNat (default : Int)), .row (tInt .i64) 3 A236 ((List.replicate a0.N.toNat (default : Int)).length) c237 (List.replicate a0.N.toNat (default : Int))]) (fun l229 => graph_Parts.j1 a0 l229) ?_ (fun hJ238 => ?_)
    · clear H hI
      rintro l229 _ _ ⟨_, b228, A230, c231, A232, c233, A234, c235, A236, c237, rfl, hI⟩ H
      refine go_seq ?_
      refine go_seq ?_
      refine r_in ?_
      refine o_batch 0 [(b2, 0, [.int .i64 a0.N, .slice A0z0 a0.Edges.length c0z0])] [.p, .l 0 0, .p] [(28, .pointer (some ⟨b2, 0, none⟩)), (29, .int .i64 a0.N), (30, .int .i64 0)] [] ⟨(hI.grp 0 rfl), trivial⟩ trivial (by kernel_rfl) (by kernel_rfl) (by kernel_rfl) ?_
      refine r_out (by kernel_rfl) ?_
      refine go_block ?_
      refine go_iter (graph_Parts.s2 a0) (fun (l849, l852, l855, l858, l861, x864, x865, x866) f w => ∃ (j : Nat → Value) (A850 : Option Addr) (c851 : Nat) (A853 : Option Addr) (c854 : Nat) (A856 : Option Addr) (c857 : Nat) (A859 : Option Addr) (c860 : Nat) (A862 : Option Addr) (c863 : Nat), f = updL j [(7, .pointer (some ⟨b228, 0, none⟩)), (29, .int .i64 a0.N), (30, .int .i64 x866)] ∧ Inv M w [.blk b228 65 [.slice A850 l849.length c851, .slice A853 l852.length c854, .slice A856 l855.length c857, .slice A859 l858.length c860, .slice A862 l861.length c863, .int .i64 x864, .int .i64 x865], .row (tInt .u64) 54 A850 l849.length c851 l849, .row (tInt .i64) 3 A853 l852.length c854 l852, .row (tInt .i64) 3 A856 l855.length c857 l855, .row (tInt .i64) 3 A859 l858.length c860 l858, .row (tInt .i64) 3 A862 l861.length c863 l861]) H ⟨_, A230, c231, A232, c233, A234, c235, A236, c237, none, 0, at_slots _ (by kernel_rfl), (hI.nilrow (tInt .i64) 3).pick [1, 2, 3, 4, 5, 6] (by decide) rfl⟩ ?_
      clear H hI
      rintro ⟨l849, l852, l855, l858, l861, x864, x865, x866⟩ _ _ o1 H ⟨_, A850, c851, A853, c854, A856, c857, A859, c860, A862, c863, rfl, hI⟩ hin1 hout1
      refine go_seq ?_
      refine r_in ?_
      refine o_batch 0 [] [.p] [(31, .bool (decide (x866 < a0.N)))] [] trivial trivial (by kernel_rfl) (by kernel_rfl) (by kernel_rfl) ?_
      refine r_out (by kernel_rfl) ?_
      refine go_seq ?_
      replace H := cond_some H
      rcases H with ⟨hc868, H⟩ | ⟨hc868, H⟩
      · refine go_then' (t := decide (x866 < a0.N)) (by kernel_rfl) hc868 ?_
        refine go_skip ?_
        refine go_seq ?_
        refine go_block_join (o := o1) (fun (l926, l929, l932, l935, l938, x941, x942) f w => ∃ (j : Nat → Value) (A927 : Option Addr) (c928 : Nat) (A930 : Option Addr) (c931 : Nat) (A933 : Option Addr) (c934 : Nat) (A936 : Option Addr) (c937 : Nat) (A939 : Option Addr) (c940 : Nat), f = updL j [(7, .pointer (some ⟨b228, 0, none⟩)), (29, .int .i64 a0.N), (30, .int .i64 x866)] ∧ Inv M w [.blk b228 65 [.slice A927 l926.length c928, .slice A930 l929.length c931, .slice A933 l932.length c934, .slice A936 l935.length c937, .slice A939 l938.length c940, .int .i64 x941, .int .i64 x942], .row (tInt .u64) 54 A927 l926.length c928 l926, .row (tInt .i64) 3 A930 l929.length c931 l929, .row (tInt .i64) 3 A933 l932.length c934 l932, .row (tInt .i64) 3 A936 l935.length c937 l935, .row (tInt .i64) 3 A939 l938.length c940 l938]) (fun (l926, l929, l932, l935, l938, x941, x942) => graph_Parts.j3 x866 l926 l929 l932 l935 l938 x941 x942) ?_ (fun hJ943 => ?_)
        · clear H hI
          rintro ⟨l926, l929, l932, l935, l938, x941, x942⟩ _ _ ⟨_, A927, c928, A930, c931, A933, c934, A936, c937, A939, c940, rfl, hI⟩ H
          refine r_in ?_
          refine o_batch 0 [] [.p, .p] [(44, .int .i64 (w64 (x866 + 1))), (30, .int .i64 (w64 (x866 + 1)))] [] trivial trivial (by kernel_rfl) (by kernel_rfl) (by kernel_rfl) ?_
          refine r_out (by kernel_rfl) ?_
          exact hin1 _ (Option.some.inj H).symm _ _ ⟨_, A927, c928, A930, c931, A933, c934, A936, c937, A939, c940, at_slots _ (by kernel_rfl), hI⟩
        · refine go_seq ?_
          refine r_in ?_
          refine o_batch 0 [] [.p, .p] [(32, .int .i64 x866), (8, .int .i64 x866)] [] trivial trivial (by kernel_rfl) (by kernel_rfl) (by kernel_rfl) ?_
          refine r_out (by kernel_rfl) ?_
          refine go_seq ?_
          refine r_in ?_
          replace H := must_some H
          obtain ⟨g946, H⟩ := H
          obtain ⟨b947, rfl⟩ := hI.rowAt 2 rfl g946
          refine o_batch 0 [(b228, 0, [.slice A850 l849.length c851, .slice (some ⟨b947, 0, none⟩) l852.length c854, .slice A856 l855.length c857, .slice A859 l858.length c860, .slice A862 l861.length c863, .int .i64 x864, .int .i64 x865]), (b947, 0 + x866.toNat * 1, [.int .i64 (idx l852 x866)])] [.p, .p, .p, .l 0 1, .p, .x, .l 1 0, .p] [(33, .pointer (some ⟨b228, 0, none⟩)), (34, .pointer (some ⟨b228, 0, none⟩)), (35, .pointer (some ⟨b228, 1, none⟩)), (36, .slice (some ⟨b947, 0, none⟩) l852.length c854), (37, .int .i64 x866), (38, .pointer (some ⟨b947, 0 + x866.toNat * 1, none⟩)), (39, .int .i64 (idx l852 x866)), (40, .bool (idx l852 x866 == 0))] [(x866, l852.length)] ⟨(hI.grp 0 rfl), (rdS.flook (hI.row 2 rfl) (hI.rowlen 2 rfl) g946).ok, trivial⟩ ⟨g946, trivial⟩ (by kernel_rfl) (by kernel_rfl) (by kernel_rfl) ?_
          refine r_out (by kernel_rfl) ?_
          replace H := cond_some H
          rcases H with ⟨hc948, H⟩ | ⟨hc948, H⟩
          · refine go_then' (t := (idx l852 x866 == 0)) (by kernel_rfl) hc948 ?_
            refine r_in ?_
            refine o_batch 0 [] [.p, .p] [(41, .pointer (some ⟨b228, 0, none⟩)), (42, .int .i64 x866)] [] trivial trivial (by kernel_rfl) (by kernel_rfl) (by kernel_rfl) ?_
            replace H := bind_some H
            obtain ⟨y954, hy955, H⟩ := H
            obtain ⟨M949, hJ950, hs951, hro952, hback953⟩ := hI.call (R := [.blk b228 65 [.slice A850 l849.length c851, .slice (some ⟨b947, 0, none⟩) l852.length c854, .slice A856 l855.length c857, .slice A859 l858.length c860, .slice A862 l861.length c863, .int .i64 x864, .int .i64 x865], .row (tInt .u64) 54 A850 l849.length c851 l849, .row (tInt .i64) 3 (some ⟨b947, 0, none⟩) l852.length c854 l852, .row (tInt .i64) 3 A856 l855.length c857 l855, .row (tInt .i64) 3 A859 l858.length c860 l858, .row (tInt .i64) 3 A862 l861.length c863 l861]) (L0 := []) [0, 1, 2, 3, 4, 5] [] (by decide) rfl
            refine o_eff 2 _ rfl (by kernel_rfl) ?_
            refine e_callf _ _ _ 37 #[] #[] #[.pointer (some ⟨b228, 0, none⟩), .int .i64 x866] #[.pointer (some ⟨b228, 0, none⟩), .int .i64 x866] rfl (by kernel_rfl) (by kernel_rfl) (by kernel_rfl) (enter37 _) (graph_walk_down_calls b228 (⟨l849, l852, l855, l858, l861, x864, x865⟩ : GraphWalk) A850 c851 (some ⟨b947, 0, none⟩) c854 A856 c857 A859 c860 A862 c863 x866 M949 _ hJ950 (rdS.mono hT hs951) _ hy955) ?_
            rintro _ _ ⟨A956, c957, A958, c959, A960, c961, A962, c963, A964, c965, rfl, hI'⟩
            replace hI := hback953 _ _ hI'
            clear hI'
            refine ⟨_, rfl, ?_⟩
            refine r_out (by kernel_rfl) ?_
            refine go_inBlock ?_
            exact hJ943 (y954.steps, y954.num, y954.low, y954.part, y954.open_, y954.count, y954.parts) _ _ ⟨_, A956, c957, A958, c959, A960, c961, A962, c963, A964, c965, at_slots _ (by kernel_rfl), hI⟩ H
          · refine go_else' (t := (idx l852 x866 == 0)) (by kernel_rfl) hc948 ?_
            refine go_skip ?_
            refine go_inBlock ?_
            exact hJ943 (l849, l852, l855, l858, l861, x864, x865) _ _ ⟨_, A850, c851, (some ⟨b947, 0, none⟩), c854, A856, c857, A859, c860, A862, c863, at_slots _ (by kernel_rfl), hI⟩ H
      · refine go_else' (t := decide (x866 < a0.N)) (by kernel_rfl) hc868 ?_
        refine go_exit rfl ?_
        refine go_seq ?_
        refine r_in ?_
        refine o_batch 0 [(b228, 0, [.slice A850 l849.length c851, .slice A853 l852.length c854, .slice A856 l855.length c857, .slice A859 l858.length c860, .slice A862 l861.length c863, .int .i64 x864, .int .i64 x865])] [.p, .p, .p, .l 0 3] [(45, .pointer (some ⟨b228, 0, none⟩)), (46, .pointer (some ⟨b228, 0, none⟩)), (47, .pointer (some ⟨b228, 3, none⟩)), (48, .slice A859 l858.length c860)] [] ⟨(hI.grp 0 rfl), trivial⟩ trivial (by kernel_rfl) (by kernel_rfl) (by kernel_rfl) ?_
        replace H := bind_some H
        obtain ⟨y970, hy971, H⟩ := H
        refine o_eff 4 _ rfl (by kernel_rfl) ?_
        refine e_callf _ _ _ 38 #[] #[] #[.slice A859 l858.length c860] #[.slice A859 l858.length c860] rfl (by kernel_rfl) (by kernel_rfl) (by kernel_rfl) (enter38 _) (graph_renumbered_calls A859 c860 l858 (memOf _) _ (Inv.start _) (hI.row 4 rfl) (hI.rowle 4 rfl) _ hy971) ?_
        rintro _ _ ⟨A972, c973, rfl, hI'⟩
        replace hI := hI.call0 hI'
        clear hI'
        refine ⟨_, rfl, ?_⟩
        refine o_batch 5 [] [.p, .p] [(4, .slice A972 y970.length c973), (5, .int .i64 0)] [] trivial trivial (by kernel_rfl) (by kernel_rfl) (by kernel_rfl) ?_
        refine r_out (by kernel_rfl) ?_
        replace H := out_some H
        obtain ⟨_, H, he1⟩ := H
        have he := (hout1 _ he1).symm
        subst he
        replace H := Option.some.inj H
        subst H
        exact go_return (.tuple #[.slice A972 y970.length c973, .int .i64 0]) Tryd.func23 (by kernel_rfl) ⟨A972, c973, rfl, hI.pick [6] (by decide) rfl⟩
    · replace H := bind_some H
      obtain ⟨y974, hy975, H⟩ := H
      replace H := must_some H
      obtain ⟨g978, H⟩ := H
      refine go_held (fun w => Inv M w [.blk b2 24 [.int .i64 a0.N, .slice A0z0 a0.Edges.length c0z0]]) (by kernel_rfl) ?_
      replace hI := hI.drew'
      refine held_batch (n := 7) [(b2, 0, [.int .i64 a0.N, .slice A0z0 a0.Edges.length c0z0])] [(0, .l 0 0), (1, .p), (3, .p), (4, .l 0 0), (6, .p), (7, .l 0 0), (9, .p), (10, .l 0 0)] [(14, .agg #[.int .i64 a0.N, .slice A0z0 a0.Edges.length c0z0]), (15, .int .i64 a1), (17, .pointer (some ⟨b2, 0, none⟩)), (18, .int .i64 a0.N), (20, .pointer (some ⟨b2, 0, none⟩)), (21, .int .i64 a0.N), (23, .pointer (some ⟨b2, 0, none⟩)), (24, .int .i64 a0.N)] [] [true, true, false, true, true, false, true, true, false, true, true, false, false, false, false] (by kernel_rfl) (fun w hS => ⟨(hS.grp 0 rfl), trivial⟩) hI trivial (by kernel_rfl) (by kernel_rfl) (by kernel_rfl) ?_
      refine held_each (n := 6) [2, 5, 8, 11] (by simp) (by kernel_rfl) ⟨⟨_, rfl, by kernel_rfl, ?_⟩, ⟨_, rfl, by kernel_rfl, ?_⟩, ⟨_, rfl, by kernel_rfl, ?_⟩, ⟨_, rfl, by kernel_rfl, ?_⟩, trivial⟩
      · refine (e_callf _ _ _ 32 #[] #[] #[.agg #[.int .i64 a0.N, .slice A0z0 a0.Edges.length c0z0], .int .i64 a1] #[.agg #[.int .i64 a0.N, .slice A0z0 a0.Edges.length c0z0], .int .i64 a1] rfl (by kernel_rfl) (by kernel_rfl) (by kernel_rfl) (enter32 _) (graph_rows_calls a0 A0z0 c0z0 a1 (memOf _) _ (Inv.start _) (hI.rd hr0z0) hl0z0 _ hy975) ?_)
        rintro _ _ ⟨A988, c989, rfl, hI'⟩
        replace hI := hI.call0 hI'
        clear hI'
        refine ⟨_, rfl, ?_⟩
        refine ⟨(hI.pick [0] (by decide) rfl), ?_⟩
        refine held_each (n := 5) [5, 8, 11] (by simp) (by kernel_rfl) ⟨⟨_, rfl, by kernel_rfl, ?_⟩, ⟨_, rfl, by kernel_rfl, ?_⟩, ⟨_, rfl, by kernel_rfl, ?_⟩, trivial⟩
        · refine (e_make (tInt .i64) (default : Int) 43 3 _ _ _ (.int .i64 0) a0.N rfl rfl rfl rfl rfl rfl (fun _ => rfl) (by kernel_rfl) (by kernel_rfl) g978 hI ?_)
          clear hI
          intro b993 _ hI
          refine ⟨(hI.pick [0] (by decide) rfl), ?_⟩
          refine held_each (n := 4) [8, 11] (by simp) (by kernel_rfl) ⟨⟨_, rfl, by kernel_rfl, ?_⟩, ⟨_, rfl, by kernel_rfl, ?_⟩, trivial⟩
          · refine (e_make (tInt .i64) (default : Int) 43 3 _ _ _ (.int .i64 0) a0.N rfl rfl rfl rfl rfl rfl (fun _ => rfl) (by kernel_rfl) (by kernel_rfl) g978 hI ?_)
            clear hI
            intro b996 _ hI
            refine ⟨(hI.pick [0] (by decide) rfl), ?_⟩
            refine held_one (n := 3) 11 _ rfl (by kernel_rfl) (by kernel_rfl) (e_make (tInt .i64) (default : Int) 43 3 _ _ _ (.int .i64 0) a0.N rfl rfl rfl rfl rfl rfl (fun _ => rfl) (by kernel_rfl) (by kernel_rfl) g978 hI ?_)
            clear hI
            intro b998 _ hI
            refine ⟨(hI.pick [0] (by decide) rfl), ?_⟩
            refine held_batch (n := 2) [] [(12, .p)] [(26, .agg #[.slice A988 y974.length c989, .slice (some ⟨b993, 0, none⟩) a0.N.toNat a0.N.toNat, .slice (some ⟨b996, 0, none⟩) a0.N.toNat a0.N.toNat, .slice (some ⟨b998, 0, none⟩) a0.N.toNat a0.N.toNat, .slice none 0 0, .int .i64 0, .int .i64 0])] [] [true, true, true, true, true, true, true, true, true, true, true, true, true, false, false] (by kernel_rfl) (fun w hS => trivial) (hI.pick [0] (by decide) rfl) trivial (by kernel_rfl) (by kernel_rfl) (by kernel_rfl) ?_
            refine held_one (n := 1) 13 _ rfl (by kernel_rfl) (by kernel_rfl) (e_box 65 _ (.agg #[.slice A988 y974.length c989, .slice (some ⟨b993, 0, none⟩) a0.N.toNat a0.N.toNat, .slice (some ⟨b996, 0, none⟩) a0.N.toNat a0.N.toNat, .slice (some ⟨b998, 0, none⟩) a0.N.toNat a0.N.toNat, .slice none 0 0, .int .i64 0, .int .i64 0]) [.slice A988 y974.length c989, .slice (some ⟨b993, 0, none⟩) a0.N.toNat a0.N.toNat, .slice (some ⟨b996, 0, none⟩) a0.N.toNat a0.N.toNat, .slice (some ⟨b998, 0, none⟩) a0.N.toNat a0.N.toNat, .slice none 0 0, .int .i64 0, .int .i64 0] rfl (by kernel_rfl) rfl hI ?_)
            clear hI
            intro b1000 _ hI
            refine ⟨(hI.pick [0] (by decide) rfl), ?_⟩
            refine held_batch (n := 0) [] [(14, .p)] [(7, .pointer (some ⟨b1000, 0, none⟩))] [] [true, true, true, true, true, true, true, true, true, true, true, true, true, true, true] (by kernel_rfl) (fun w hS => trivial) (hI.pick [0] (by decide) rfl) trivial (by kernel_rfl) (by kernel_rfl) (by kernel_rfl) ?_
            refine held_done (by kernel_rfl) ?_
            replace hI := hI.renum 2 rfl
            replace hI := hI.renum 3 rfl
            replace hI := hI.renum 4 rfl
            replace hI := hI.recell 5 [.slice A988 y974.length c989, .slice (some ⟨b993, 0, none⟩) ((List.replicate a0.N.toNat (default : Int)).length) a0.N.toNat, .slice (some ⟨b996, 0, none⟩) ((List.replicate a0.N.toNat (default : Int)).length) a0.N.toNat, .slice (some ⟨b998, 0, none⟩) ((List.replicate a0.N.toNat (default : Int)).length) a0.N.toNat, .slice none 0 0, .int .i64 0, .int .i64 0] (by first | rfl | simp only [List.length_set, List.length_replicate, List.length_nil]) rfl
            exact hJ238 y974 _ _ ⟨_, b1000, A988, c989, (some ⟨b993, 0, none⟩), a0.N.toNat, (some ⟨b996, 0, none⟩), a0.N.toNat, (some ⟨b998, 0, none⟩), a0.N.toNat, at_slots _ (by kernel_rfl), hI.pick [0, 5, 1, 2, 3, 4] (by decide) rfl⟩ H
          · refine (e_make (tInt .i64) (default : Int) 43 3 _ _ _ (.int .i64 0) a0.N rfl rfl rfl rfl rfl rfl (fun _ => rfl) (by kernel_rfl) (by kernel_rfl) g978 hI ?_)
            clear hI
            intro b1001 _ hI
            refine ⟨(hI.pick [0] (by decide) rfl), ?_⟩
            refine held_one (n := 3) 8 _ rfl (by kernel_rfl) (by kernel_rfl) (e_make (tInt .i64) (default : Int) 43 3 _ _ _ (.int .i64 0) a0.N rfl rfl rfl rfl rfl rfl (fun _ => rfl) (by kernel_rfl) (by kernel_rfl) g978 hI ?_)
            clear hI
            intro b1003 _ hI
            refine ⟨(hI.pick [0] (by decide) rfl), ?_⟩
            refine held_batch (n := 2) [] [(12, .p)] [(26, .agg #[.slice A988 y974.length c989, .slice (some ⟨b993, 0, none⟩) a0.N.toNat a0.N.toNat, .slice (some ⟨b1003, 0, none⟩) a0.N.toNat a0.N.toNat, .slice (some ⟨b1001, 0, none⟩) a0.N.toNat a0.N.toNat, .slice none 0 0, .int .i64 0, .int .i64 0])] [] [true, true, true, true, true, true, true, true, true, true, true, true, true, false, false] (by kernel_rfl) (fun w hS => trivial) (hI.pick [0] (by decide) rfl) trivial (by kernel_rfl) (by kernel_rfl) (by kernel_rfl) ?_
            refine held_one (n := 1) 13 _ rfl (by kernel_rfl) (by kernel_rfl) (e_box 65 _ (.agg #[.slice A988 y974.length c989, .slice (some ⟨b993, 0, none⟩) a0.N.toNat a0.N.toNat, .slice (some ⟨b1003, 0, none⟩) a0.N.toNat a0.N.toNat, .slice (some ⟨b1001, 0, none⟩) a0.N.toNat a0.N.toNat, .slice none 0 0, .int .i64 0, .int .i64 0]) [.slice A988 y974.length c989, .slice (some ⟨b993, 0, none⟩) a0.N.toNat a0.N.toNat, .slice (some ⟨b1003, 0, none⟩) a0.N.toNat a0.N.toNat, .slice (some ⟨b1001, 0, none⟩) a0.N.toNat a0.N.toNat, .slice none 0 0, .int .i64 0, .int .i64 0] rfl (by kernel_rfl) rfl hI ?_)
            clear hI
            intro b1005 _ hI
            refine ⟨(hI.pick [0] (by decide) rfl), ?_⟩
            refine held_batch (n := 0) [] [(14, .p)] [(7, .pointer (some ⟨b1005, 0, none⟩))] [] [true, true, true, true, true, true, true, true, true, true, true, true, true, true, true] (by kernel_rfl) (fun w hS => trivial) (hI.pick [0] (by decide) rfl) trivial (by kernel_rfl) (by kernel_rfl) (by kernel_rfl) ?_
            refine held_done (by kernel_rfl) ?_
            replace hI := hI.renum 2 rfl
            replace hI := hI.renum 3 rfl
            replace hI := hI.renum 4 rfl
            replace hI := hI.recell 5 [.slice A988 y974.length c989, .slice (some ⟨b993, 0, none⟩) ((List.replicate a0.N.toNat (default : Int)).length) a0.N.toNat, .slice (some ⟨b1003, 0, none⟩) ((List.replicate a0.N.toNat (default : Int)).length) a0.N.toNat, .slice (some ⟨b1001, 0, none⟩) ((List.replicate a0.N.toNat (default : Int)).length) a0.N.toNat, .slice none 0 0, .int .i64 0, .int .i64 0] (by first | rfl | simp only [List.length_set, List.length_replicate, List.length_nil]) rfl
            exact hJ238 y974 _ _ ⟨_, b1005, A988, c989, (some ⟨b993, 0, none⟩), a0.N.toNat, (some ⟨b1003, 0, none⟩), a0.N.toNat, (some ⟨b1001, 0, none⟩), a0.N.toNat, at_slots _ (by kernel_rfl), hI.pick [0, 5, 1, 2, 4, 3] (by decide) rfl⟩ H
        · refine (e_make (tInt .i64) (default : Int) 43 3 _ _ _ (.int .i64 0) a0.N rfl rfl rfl rfl rfl rfl (fun _ => rfl) (by kernel_rfl) (by kernel_rfl) g978 hI ?_)
          clear hI
          intro b1006 _ hI
          refine ⟨(hI.pick [0] (by decide) rfl), ?_⟩
          refine held_each (n := 4) [5, 11] (by simp) (by kernel_rfl) ⟨⟨_, rfl, by kernel_rfl, ?_⟩, ⟨_, rfl, by kernel_rfl, ?_⟩, trivial⟩
          · refine (e_make (tInt .i64) (default : Int) 43 3 _ _ _ (.int .i64 0) a0.N rfl rfl rfl rfl rfl rfl (fun _ => rfl) (by kernel_rfl) (by kernel_rfl) g978 hI ?_)
            clear hI
            intro b1009 _ hI
            refine ⟨(hI.pick [0] (by decide) rfl), ?_⟩
            refine held_one (n := 3) 11 _ rfl (by kernel_rfl) (by kernel_rfl) (e_make (tInt .i64) (default : Int) 43 3 _ _ _ (.int .i64 0) a0.N rfl rfl rfl rfl rfl rfl (fun _ => rfl) (by kernel_rfl) (by kernel_rfl) g978 hI ?_)
            clear hI
            intro b1011 _ hI
            refine ⟨(hI.pick [0] (by decide) rfl), ?_⟩
            refine held_batch (n := 2) [] [(12, .p)] [(26, .agg #[.slice A988 y974.length c989, .slice (some ⟨b1009, 0, none⟩) a0.N.toNat a0.N.toNat, .slice (some ⟨b1006, 0, none⟩) a0.N.toNat a0.N.toNat, .slice (some ⟨b1011, 0, none⟩) a0.N.toNat a0.N.toNat, .slice none 0 0, .int .i64 0, .int .i64 0])] [] [true, true, true, true, true, true, true, true, true, true, true, true, true, false, false] (by kernel_rfl) (fun w hS => trivial) (hI.pick [0] (by decide) rfl) trivial (by kernel_rfl) (by kernel_rfl) (by kernel_rfl) ?_
            refine held_one (n := 1) 13 _ rfl (by kernel_rfl) (by kernel_rfl) (e_box 65 _ (.agg #[.slice A988 y974.length c989, .slice (some ⟨b1009, 0, none⟩) a0.N.toNat a0.N.toNat, .slice (some ⟨b1006, 0, none⟩) a0.N.toNat a0.N.toNat, .slice (some ⟨b1011, 0, none⟩) a0.N.toNat a0.N.toNat, .slice none 0 0, .int .i64 0, .int .i64 0]) [.slice A988 y974.length c989, .slice (some ⟨b1009, 0, none⟩) a0.N.toNat a0.N.toNat, .slice (some ⟨b1006, 0, none⟩) a0.N.toNat a0.N.toNat, .slice (some ⟨b1011, 0, none⟩) a0.N.toNat a0.N.toNat, .slice none 0 0, .int .i64 0, .int .i64 0] rfl (by kernel_rfl) rfl hI ?_)
            clear hI
            intro b1013 _ hI
            refine ⟨(hI.pick [0] (by decide) rfl), ?_⟩
            refine held_batch (n := 0) [] [(14, .p)] [(7, .pointer (some ⟨b1013, 0, none⟩))] [] [true, true, true, true, true, true, true, true, true, true, true, true, true, true, true] (by kernel_rfl) (fun w hS => trivial) (hI.pick [0] (by decide) rfl) trivial (by kernel_rfl) (by kernel_rfl) (by kernel_rfl) ?_
            refine held_done (by kernel_rfl) ?_
            replace hI := hI.renum 2 rfl
            replace hI := hI.renum 3 rfl
            replace hI := hI.renum 4 rfl
            replace hI := hI.recell 5 [.slice A988 y974.length c989, .slice (some ⟨b1009, 0, none⟩) ((List.replicate a0.N.toNat (default : Int)).length) a0.N.toNat, .slice (some ⟨b1006, 0, none⟩) ((List.replicate a0.N.toNat (default : Int)).length) a0.N.toNat, .slice (some ⟨b1011, 0, none⟩) ((List.replicate a0.N.toNat (default : Int)).length) a0.N.toNat, .slice none 0 0, .int .i64 0, .int .i64 0] (by first | rfl | simp only [List.length_set, List.length_replicate, List.length_nil]) rfl
            exact hJ238 y974 _ _ ⟨_, b1013, A988, c989, (some ⟨b1009, 0, none⟩), a0.N.toNat, (some ⟨b1006, 0, none⟩), a0.N.toNat, (some ⟨b1011, 0, none⟩), a0.N.toNat, at_slots _ (by kernel_rfl), hI.pick [0, 5, 1, 3, 2, 4] (by decide) rfl⟩ H
          · refine (e_make (tInt .i64) (default : Int) 43 3 _ _ _ (.int .i64 0) a0.N rfl rfl rfl rfl rfl rfl (fun _ => rfl) (by kernel_rfl) (by kernel_rfl) g978 hI ?_)
            clear hI
            intro b1014 _ hI
            refine ⟨(hI.pick [0] (by decide) rfl), ?_⟩
            refine held_one (n := 3) 5 _ rfl (by kernel_rfl) (by kernel_rfl) (e_make (tInt .i64) (default : Int) 43 3 _ _ _ (.int .i64 0) a0.N rfl rfl rfl rfl rfl rfl (fun _ => rfl) (by kernel_rfl) (by kernel_rfl) g978 hI ?_)
            clear hI
            intro b1016 _ hI
            refine ⟨(hI.pick [0] (by decide) rfl), ?_⟩
            refine held_batch (n := 2) [] [(12, .p)] [(26, .agg #[.slice A988 y974.length c989, .slice (some ⟨b1016, 0, none⟩) a0.N.toNat a0.N.toNat, .slice (some ⟨b1006, 0, none⟩) a0.N.toNat a0.N.toNat, .slice (some ⟨b1014, 0, none⟩) a0.N.toNat a0.N.toNat, .slice none 0 0, .int .i64 0, .int .i64 0])] [] [true, true, true, true, true, true, true, true, true, true, true, true, true, false, false] (by kernel_rfl) (fun w hS => trivial) (hI.pick [0] (by decide) rfl) trivial (by kernel_rfl) (by kernel_rfl) (by kernel_rfl) ?_
            refine held_one (n := 1) 13 _ rfl (by kernel_rfl) (by kernel_rfl) (e_box 65 _ (.agg #[.slice A988 y974.length c989, .slice (some ⟨b1016, 0, none⟩) a0.N.toNat a0.N.toNat, .slice (some ⟨b1006, 0, none⟩) a0.N.toNat a0.N.toNat, .slice (some ⟨b1014, 0, none⟩) a0.N.toNat a0.N.toNat, .slice none 0 0, .int .i64 0, .int .i64 0]) [.slice A988 y974.length c989, .slice (some ⟨b1016, 0, none⟩) a0.N.toNat a0.N.toNat, .slice (some ⟨b1006, 0, none⟩) a0.N.toNat a0.N.toNat, .slice (some ⟨b1014, 0, none⟩) a0.N.toNat a0.N.toNat, .slice none 0 0, .int .i64 0, .int .i64 0] rfl (by kernel_rfl) rfl hI ?_)
            clear hI
            intro b1018 _ hI
            refine ⟨(hI.pick [0] (by decide) rfl), ?_⟩
            refine held_batch (n := 0) [] [(14, .p)] [(7, .pointer (some ⟨b1018, 0, none⟩))] [] [true, true, true, true, true, true, true, true, true, true, true, true, true, true, true] (by kernel_rfl) (fun w hS => trivial) (hI.pick [0] (by decide) rfl) trivial (by kernel_rfl) (by kernel_rfl) (by kernel_rfl) ?_
            refine held_done (by kernel_rfl) ?_
            replace hI := hI.renum 2 rfl
            replace hI := hI.renum 3 rfl
            replace hI := hI.renum 4 rfl
            replace hI := hI.recell 5 [.slice A988 y974.length c989, .slice (some ⟨b1016, 0, none⟩) ((List.replicate a0.N.toNat (default : Int)).length) a0.N.toNat, .slice (some ⟨b1006, 0, none⟩) ((List.replicate a0.N.toNat (default : Int)).length) a0.N.toNat, .slice (some ⟨b1014, 0, none⟩) ((List.replicate a0.N.toNat (default : Int)).length) a0.N.toNat, .slice none 0 0, .int .i64 0, .int .i64 0] (by first | rfl | simp only [List.length_set, List.length_replicate, List.length_nil]) rfl
            exact hJ238 y974 _ _ ⟨_, b1018, A988, c989, (some ⟨b1016, 0, none⟩), a0.N.toNat, (some ⟨b1006, 0, none⟩), a0.N.toNat, (some ⟨b1014, 0, none⟩), a0.N.toNat, at_slots _ (by kernel_rfl), hI.pick [0, 5, 1, 4, 2, 3] (by decide) rfl⟩ H
        · refine (e_make (tInt .i64) (default : Int) 43 3 _ _ _ (.int .i64 0) a0.N rfl rfl rfl rfl rfl rfl (fun _ => rfl) (by kernel_rfl) (by kernel_rfl) g978 hI ?_)
          clear hI
          intro b1019 _ hI
          refine ⟨(hI.pick [0] (by decide) rfl), ?_⟩
          refine held_each (n := 4) [5, 8] (by simp) (by kernel_rfl) ⟨⟨_, rfl, by kernel_rfl, ?_⟩, ⟨_, rfl, by kernel_rfl, ?_⟩, trivial⟩
          · refine (e_make (tInt .i64) (default : Int) 43 3 _ _ _ (.int .i64 0) a0.N rfl rfl rfl rfl rfl rfl (fun _ => rfl) (by kernel_rfl) (by kernel_rfl) g978 hI ?_)
            clear hI
            intro b1022 _ hI
            refine ⟨(hI.pick [0] (by decide) rfl), ?_⟩
            refine held_one (n := 3) 8 _ rfl (by kernel_rfl) (by kernel_rfl) (e_make (tInt .i64) (default : Int) 43 3 _ _ _ (.int .i64 0) a0.N rfl rfl rfl rfl rfl rfl (fun _ => rfl) (by kernel_rfl) (by kernel_rfl) g978 hI ?_)
            clear hI
            intro b1024 _ hI
            refine ⟨(hI.pick [0] (by decide) rfl), ?_⟩
            refine held_batch (n := 2) [] [(12, .p)] [(26, .agg #[.slice A988 y974.length c989, .slice (some ⟨b1022, 0, none⟩) a0.N.toNat a0.N.toNat, .slice (some ⟨b1024, 0, none⟩) a0.N.toNat a0.N.toNat, .slice (some ⟨b1019, 0, none⟩) a0.N.toNat a0.N.toNat, .slice none 0 0, .int .i64 0, .int .i64 0])] [] [true, true, true, true, true, true, true, true, true, true, true, true, true, false, false] (by kernel_rfl) (fun w hS => trivial) (hI.pick [0] (by decide) rfl) trivial (by kernel_rfl) (by kernel_rfl) (by kernel_rfl) ?_
            refine held_one (n := 1) 13 _ rfl (by kernel_rfl) (by kernel_rfl) (e_box 65 _ (.agg #[.slice A988 y974.length c989, .slice (some ⟨b1022, 0, none⟩) a0.N.toNat a0.N.toNat, .slice (some ⟨b1024, 0, none⟩) a0.N.toNat a0.N.toNat, .slice (some ⟨b1019, 0, none⟩) a0.N.toNat a0.N.toNat, .slice none 0 0, .int .i64 0, .int .i64 0]) [.slice A988 y974.length c989, .slice (some ⟨b1022, 0, none⟩) a0.N.toNat a0.N.toNat, .slice (some ⟨b1024, 0, none⟩) a0.N.toNat a0.N.toNat, .slice (some ⟨b1019, 0, none⟩) a0.N.toNat a0.N.toNat, .slice none 0 0, .int .i64 0, .int .i64 0] rfl (by kernel_rfl) rfl hI ?_)
            clear hI
            intro b1026 _ hI
            refine ⟨(hI.pick [0] (by decide) rfl), ?_⟩
            refine held_batch (n := 0) [] [(14, .p)] [(7, .pointer (some ⟨b1026, 0, none⟩))] [] [true, true, true, true, true, true, true, true, true, true, true, true, true, true, true] (by kernel_rfl) (fun w hS => trivial) (hI.pick [0] (by decide) rfl) trivial (by kernel_rfl) (by kernel_rfl) (by kernel_rfl) ?_
            refine held_done (by kernel_rfl) ?_
            replace hI := hI.renum 2 rfl
            replace hI := hI.renum 3 rfl
            replace hI := hI.renum 4 rfl
            replace hI := hI.recell 5 [.slice A988 y974.length c989, .slice (some ⟨b1022, 0, none⟩) ((List.replicate a0.N.toNat (default : Int)).length) a0.N.toNat, .slice (some ⟨b1024, 0, none⟩) ((List.replicate a0.N.toNat (default : Int)).length) a0.N.toNat, .slice (some ⟨b1019, 0, none⟩) ((List.replicate a0.N.toNat (default : Int)).length) a0.N.toNat, .slice none 0 0, .int .i64 0, .int .i64 0] (by first | rfl | simp only [List.length_set, List.length_replicate, List.length_nil]) rfl
            exact hJ238 y974 _ _ ⟨_, b1026, A988, c989, (some ⟨b1022, 0, none⟩), a0.N.toNat, (some ⟨b1024, 0, none⟩), a0.N.toNat, (some ⟨b1019, 0, none⟩), a0.N.toNat, at_slots _ (by kernel_rfl), hI.pick [0, 5, 1, 3, 4, 2] (by decide) rfl⟩ H
          · refine (e_make (tInt .i64) (default : Int) 43 3 _ _ _ (.int .i64 0) a0.N rfl rfl rfl rfl rfl rfl (fun _ => rfl) (by kernel_rfl) (by kernel_rfl) g978 hI ?_)
            clear hI
            intro b1027 _ hI
            refine ⟨(hI.pick [0] (by decide) rfl), ?_⟩
            refine held_one (n := 3) 5 _ rfl (by kernel_rfl) (by kernel_rfl) (e_make (tInt .i64) (default : Int) 43 3 _ _ _ (.int .i64 0) a0.N rfl rfl rfl rfl rfl rfl (fun _ => rfl) (by kernel_rfl) (by kernel_rfl) g978 hI ?_)
            clear hI
            intro b1029 _ hI
            refine ⟨(hI.pick [0] (by decide) rfl), ?_⟩
            refine held_batch (n := 2) [] [(12, .p)] [(26, .agg #[.slice A988 y974.length c989, .slice (some ⟨b1029, 0, none⟩) a0.N.toNat a0.N.toNat, .slice (some ⟨b1027, 0, none⟩) a0.N.toNat a0.N.toNat, .slice (some ⟨b1019, 0, none⟩) a0.N.toNat a0.N.toNat, .slice none 0 0, .int .i64 0, .int .i64 0])] [] [true, true, true, true, true, true, true, true, true, true, true, true, true, false, false] (by kernel_rfl) (fun w hS => trivial) (hI.pick [0] (by decide) rfl) trivial (by kernel_rfl) (by kernel_rfl) (by kernel_rfl) ?_
            refine held_one (n := 1) 13 _ rfl (by kernel_rfl) (by kernel_rfl) (e_box 65 _ (.agg #[.slice A988 y974.length c989, .slice (some ⟨b1029, 0, none⟩) a0.N.toNat a0.N.toNat, .slice (some ⟨b1027, 0, none⟩) a0.N.toNat a0.N.toNat, .slice (some ⟨b1019, 0, none⟩) a0.N.toNat a0.N.toNat, .slice none 0 0, .int .i64 0, .int .i64 0]) [.slice A988 y974.length c989, .slice (some ⟨b1029, 0, none⟩) a0.N.toNat a0.N.toNat, .slice (some ⟨b1027, 0, none⟩) a0.N.toNat a0.N.toNat, .slice (some ⟨b1019, 0, none⟩) a0.N.toNat a0.N.toNat, .slice none 0 0, .int .i64 0, .int .i64 0] rfl (by kernel_rfl) rfl hI ?_)
            clear hI
            intro b1031 _ hI
            refine ⟨(hI.pick [0] (by decide) rfl), ?_⟩
            refine held_batch (n := 0) [] [(14, .p)] [(7, .pointer (some ⟨b1031, 0, none⟩))] [] [true, true, true, true, true, true, true, true, true, true, true, true, true, true, true] (by kernel_rfl) (fun w hS => trivial) (hI.pick [0] (by decide) rfl) trivial (by kernel_rfl) (by kernel_rfl) (by kernel_rfl) ?_
            refine held_done (by kernel_rfl) ?_
            replace hI := hI.renum 2 rfl
            replace hI := hI.renum 3 rfl
            replace hI := hI.renum 4 rfl
            replace hI := hI.recell 5 [.slice A988 y974.length c989, .slice (some ⟨b1029, 0, none⟩) ((List.replicate a0.N.toNat (default : Int)).length) a0.N.toNat, .slice (some ⟨b1027, 0, none⟩) ((List.replicate a0.N.toNat (default : Int)).length) a0.N.toNat, .slice (some ⟨b1019, 0, none⟩) ((List.replicate a0.N.toNat (default : Int)).length) a0.N.toNat, .slice none 0 0, .int .i64 0, .int .i64 0] (by first | rfl | simp only [List.length_set, List.length_replicate, List.length_nil]) rfl
            exact hJ238 y974 _ _ ⟨_, b1031, A988, c989, (some ⟨b1029, 0, none⟩), a0.N.toNat, (some ⟨b1027, 0, none⟩), a0.N.toNat, (some ⟨b1019, 0, none⟩), a0.N.toNat, at_slots _ (by kernel_rfl), hI.pick [0, 5, 1, 4, 3, 2] (by decide) rfl⟩ H
      · refine (e_make (tInt .i64) (default : Int) 43 3 _ _ _ (.int .i64 0) a0.N rfl rfl rfl rfl rfl rfl (fun _ => rfl) (by kernel_rfl) (by kernel_rfl) g978 hI ?_)
        clear hI
        intro b1032 _ hI
        refine ⟨(hI.pick [0] (by decide) rfl), ?_⟩
        refine held_each (n := 5) [2, 8, 11] (by simp) (by kernel_rfl) ⟨⟨_, rfl, by kernel_rfl, ?_⟩, ⟨_, rfl, by kernel_rfl, ?_⟩, ⟨_, rfl, by kernel_rfl, ?_⟩, trivial⟩
        · refine (e_callf _ _ _ 32 #[] #[] #[.agg #[.int .i64 a0.N, .slice A0z0 a0.Edges.length c0z0], .int .i64 a1] #[.agg #[.int .i64 a0.N, .slice A0z0 a0.Edges.length c0z0], .int .i64 a1] rfl (by kernel_rfl) (by kernel_rfl) (by kernel_rfl) (enter32 _) (graph_rows_calls a0 A0z0 c0z0 a1 (memOf _) _ (Inv.start _) (hI.rd hr0z0) hl0z0 _ hy975) ?_)
          rintro _ _ ⟨A1037, c1038, rfl, hI'⟩
          replace hI := hI.call0 hI'
          clear hI'
          refine ⟨_, rfl, ?_⟩
          refine ⟨(hI.pick [0] (by decide) rfl), ?_⟩
          refine held_each (n := 4) [8, 11] (by simp) (by kernel_rfl) ⟨⟨_, rfl, by kernel_rfl, ?_⟩, ⟨_, rfl, by kernel_rfl, ?_⟩, trivial⟩
          · refine (e_make (tInt .i64) (default : Int) 43 3 _ _ _ (.int .i64 0) a0.N rfl rfl rfl rfl rfl rfl (fun _ => rfl) (by kernel_rfl) (by kernel_rfl) g978 hI ?_)
            clear hI
            intro b1041 _ hI
            refine ⟨(hI.pick [0] (by decide) rfl), ?_⟩
            refine held_one (n := 3) 11 _ rfl (by kernel_rfl) (by kernel_rfl) (e_make (tInt .i64) (default : Int) 43 3 _ _ _ (.int .i64 0) a0.N rfl rfl rfl rfl rfl rfl (fun _ => rfl) (by kernel_rfl) (by kernel_rfl) g978 hI ?_)
            clear hI
            intro b1043 _ hI
            refine ⟨(hI.pick [0] (by decide) rfl), ?_⟩
            refine held_batch (n := 2) [] [(12, .p)] [(26, .agg #[.slice A1037 y974.length c1038, .slice (some ⟨b1032, 0, none⟩) a0.N.toNat a0.N.toNat, .slice (some ⟨b1041, 0, none⟩) a0.N.toNat a0.N.toNat, .slice (some ⟨b1043, 0, none⟩) a0.N.toNat a0.N.toNat, .slice none 0 0, .int .i64 0, .int .i64 0])] [] [true, true, true, true, true, true, true, true, true, true, true, true, true, false, false] (by kernel_rfl) (fun w hS => trivial) (hI.pick [0] (by decide) rfl) trivial (by kernel_rfl) (by kernel_rfl) (by kernel_rfl) ?_
            refine held_one (n := 1) 13 _ rfl (by kernel_rfl) (by kernel_rfl) (e_box 65 _ (.agg #[.slice A1037 y974.length c1038, .slice (some ⟨b1032, 0, none⟩) a0.N.toNat a0.N.toNat, .slice (some ⟨b1041, 0, none⟩) a0.N.toNat a0.N.toNat, .slice (some ⟨b1043, 0, none⟩) a0.N.toNat a0.N.toNat, .slice none 0 0, .int .i64 0, .int .i64 0]) [.slice A1037 y974.length c1038, .slice (some ⟨b1032, 0, none⟩) a0.N.toNat a0.N.toNat, .slice (some ⟨b1041, 0, none⟩) a0.N.toNat a0.N.toNat, .slice (some ⟨b1043, 0, none⟩) a0.N.toNat a0.N.toNat, .slice none 0 0, .int .i64 0, .int .i64 0] rfl (by kernel_rfl) rfl hI ?_)
            clear hI
            intro b1045 _ hI
            refine ⟨(hI.pick [0] (by decide) rfl), ?_⟩
            refine held_batch (n := 0) [] [(14, .p)] [(7, .pointer (some ⟨b1045, 0, none⟩))] [] [true, true, true, true, true, true, true, true, true, true, true, true, true, true, true] (by kernel_rfl) (fun w hS => trivial) (hI.pick [0] (by decide) rfl) trivial (by kernel_rfl) (by kernel_rfl) (by kernel_rfl) ?_
            refine held_done (by kernel_rfl) ?_
            replace hI := hI.renum 1 rfl
            replace hI := hI.renum 3 rfl
            replace hI := hI.renum 4 rfl
            replace hI := hI.recell 5 [.slice A1037 y974.length c1038, .slice (some ⟨b1032, 0, none⟩) ((List.replicate a0.N.toNat (default : Int)).length) a0.N.toNat, .slice (some ⟨b1041, 0, none⟩) ((List.replicate a0.N.toNat (default : Int)).length) a0.N.toNat, .slice (some ⟨b1043, 0, none⟩) ((List.replicate a0.N.toNat (default : Int)).length) a0.N.toNat, .slice none 0 0, .int .i64 0, .int .i64 0] (by first | rfl | simp only [List.length_set, List.length_replicate, List.length_nil]) rfl
            exact hJ238 y974 _ _ ⟨_, b1045, A1037, c1038, (some ⟨b1032, 0, none⟩), a0.N.toNat, (some ⟨b1041, 0, none⟩), a0.N.toNat, (some ⟨b1043, 0, none⟩), a0.N.toNat, at_slots _ (by kernel_rfl), hI.pick [0, 5, 2, 1, 3, 4] (by decide) rfl⟩ H
          · refine (e_make (tInt .i64) (default : Int) 43 3 _ _ _ (.int .i64 0) a0.N rfl rfl rfl rfl rfl rfl (fun _ => rfl) (by kernel_rfl) (by kernel_rfl) g978 hI ?_)
            clear hI
            intro b1046 _ hI
            refine ⟨(hI.pick [0] (by decide) rfl), ?_⟩
            refine held_one (n := 3) 8 _ rfl (by kernel_rfl) (by kernel_rfl) (e_make (tInt .i64) (default : Int) 43 3 _ _ _ (.int .i64 0) a0.N rfl rfl rfl rfl rfl rfl (fun _ => rfl) (by kernel_rfl) (by kernel_rfl) g978 hI ?_)
            clear hI
            intro b1048 _ hI
            refine ⟨(hI.pick [0] (by decide) rfl), ?_⟩
            refine held_batch (n := 2) [] [(12, .p)] [(26, .agg #[.slice A1037 y974.length c1038, .slice (some ⟨b1032, 0, none⟩) a0.N.toNat a0.N.toNat, .slice (some ⟨b1048, 0, none⟩) a0.N.toNat a0.N.toNat, .slice (some ⟨b1046, 0, none⟩) a0.N.toNat a0.N.toNat, .slice none 0 0, .int .i64 0, .int .i64 0])] [] [true, true, true, true, true, true, true, true, true, true, true, true, true, false, false] (by kernel_rfl) (fun w hS => trivial) (hI.pick [0] (by decide) rfl) trivial (by kernel_rfl) (by kernel_rfl) (by kernel_rfl) ?_
            refine held_one (n := 1) 13 _ rfl (by kernel_rfl) (by kernel_rfl) (e_box 65 _ (.agg #[.slice A1037 y974.length c1038, .slice (some ⟨b1032, 0, none⟩) a0.N.toNat a0.N.toNat, .slice (some ⟨b1048, 0, none⟩) a0.N.toNat a0.N.toNat, .slice (some ⟨b1046, 0, none⟩) a0.N.toNat a0.N.toNat, .slice none 0 0, .int .i64 0, .int .i64 0]) [.slice A1037 y974.length c1038, .slice (some ⟨b1032, 0, none⟩) a0.N.toNat a0.N.toNat, .slice (some ⟨b1048, 0, none⟩) a0.N.toNat a0.N.toNat, .slice (some ⟨b1046, 0, none⟩) a0.N.toNat a0.N.toNat, .slice none 0 0, .int .i64 0, .int .i64 0] rfl (by kernel_rfl) rfl hI ?_)
            clear hI
            intro b1050 _ hI
            refine ⟨(hI.pick [0] (by decide) rfl), ?_⟩
            refine held_batch (n := 0) [] [(14, .p)] [(7, .pointer (some ⟨b1050, 0, none⟩))] [] [true, true, true, true, true, true, true, true, true, true, true, true, true, true, true] (by kernel_rfl) (fun w hS => trivial) (hI.pick [0] (by decide) rfl) trivial (by kernel_rfl) (by kernel_rfl) (by kernel_rfl) ?_
            refine held_done (by kernel_rfl) ?_
            replace hI := hI.renum 1 rfl
            replace hI := hI.renum 3 rfl
            replace hI := hI.renum 4 rfl
            replace hI := hI.recell 5 [.slice A1037 y974.length c1038, .slice (some ⟨b1032, 0, none⟩) ((List.replicate a0.N.toNat (default : Int)).length) a0.N.toNat, .slice (some ⟨b1048, 0, none⟩) ((List.replicate a0.N.toNat (default : Int)).length) a0.N.toNat, .slice (some ⟨b1046, 0, none⟩) ((List.replicate a0.N.toNat (default : Int)).length) a0.N.toNat, .slice none 0 0, .int .i64 0, .int .i64 0] (by first | rfl | simp only [List.length_set, List.length_replicate, List.length_nil]) rfl
            exact hJ238 y974 _ _ ⟨_, b1050, A1037, c1038, (some ⟨b1032, 0, none⟩), a0.N.toNat, (some ⟨b1048, 0, none⟩), a0.N.toNat, (some ⟨b1046, 0, none⟩), a0.N.toNat, at_slots _ (by kernel_rfl), hI.pick [0, 5, 2, 1, 4, 3] (by decide) rfl⟩ H
        · refine (e_make (tInt .i64) (default : Int) 43 3 _ _ _ (.int .i64 0) a0.N rfl rfl rfl rfl rfl rfl (fun _ => rfl) (by kernel_rfl) (by kernel_rfl) g978 hI ?_)
          clear hI
          intro b1051 _ hI
          refine ⟨(hI.pick [0] (by decide) rfl), ?_⟩
          refine held_each (n := 4) [2, 11] (by simp) (by kernel_rfl) ⟨⟨_, rfl, by kernel_rfl, ?_⟩, ⟨_, rfl, by kernel_rfl, ?_⟩, trivial⟩
          · refine (e_callf _ _ _ 32 #[] #[] #[.agg #[.int .i64 a0.N, .slice A0z0 a0.Edges.length c0z0], .int .i64 a1] #[.agg #[.int .i64 a0.N, .slice A0z0 a0.Edges.length c0z0], .int .i64 a1] rfl (by kernel_rfl) (by kernel_rfl) (by kernel_rfl) (enter32 _) (graph_rows_calls a0 A0z0 c0z0 a1 (memOf _) _ (Inv.start _) (hI.rd hr0z0) hl0z0 _ hy975) ?_)
            rintro _ _ ⟨A1055, c1056, rfl, hI'⟩
            replace hI := hI.call0 hI'
            clear hI'
            refine ⟨_, rfl, ?_⟩
            refine ⟨(hI.pick [0] (by decide) rfl), ?_⟩
            refine held_one (n := 3) 11 _ rfl (by kernel_rfl) (by kernel_rfl) (e_make (tInt .i64) (default : Int) 43 3 _ _ _ (.int .i64 0) a0.N rfl rfl rfl rfl rfl rfl (fun _ => rfl) (by kernel_rfl) (by kernel_rfl) g978 hI ?_)
            clear hI
            intro b1058 _ hI
            refine ⟨(hI.pick [0] (by decide) rfl), ?_⟩
            refine held_batch (n := 2) [] [(12, .p)] [(26, .agg #[.slice A1055 y974.length c1056, .slice (some ⟨b1032, 0, none⟩) a0.N.toNat a0.N.toNat, .slice (some ⟨b1051, 0, none⟩) a0.N.toNat a0.N.toNat, .slice (some ⟨b1058, 0, none⟩) a0.N.toNat a0.N.toNat, .slice none 0 0, .int .i64 0, .int .i64 0])] [] [true, true, true, true, true, true, true, true, true, true, true, true, true, false, false] (by kernel_rfl) (fun w hS => trivial) (hI.pick [0] (by decide) rfl) trivial (by kernel_rfl) (by kernel_rfl) (by kernel_rfl) ?_
            refine held_one (n := 1) 13 _ rfl (by kernel_rfl) (by kernel_rfl) (e_box 65 _ (.agg #[.slice A1055 y974.length c1056, .slice (some ⟨b1032, 0, none⟩) a0.N.toNat a0.N.toNat, .slice (some ⟨b1051, 0, none⟩) a0.N.toNat a0.N.toNat, .slice (some ⟨b1058, 0, none⟩) a0.N.toNat a0.N.toNat, .slice none 0 0, .int .i64 0, .int .i64 0]) [.slice A1055 y974.length c1056, .slice (some ⟨b1032, 0, none⟩) a0.N.toNat a0.N.toNat, .slice (some ⟨b1051, 0, none⟩) a0.N.toNat a0.N.toNat, .slice (some ⟨b1058, 0, none⟩) a0.N.toNat a0.N.toNat, .slice none 0 0, .int .i64 0, .int .i64 0] rfl (by kernel_rfl) rfl hI ?_)
            clear hI
            intro b1060 _ hI
            refine ⟨(hI.pick [0] (by decide) rfl), ?_⟩
            refine held_batch (n := 0) [] [(14, .p)] [(7, .pointer (some ⟨b1060, 0, none⟩))] [] [true, true, true, true, true, true, true, true, true, true, true, true, true, true, true] (by kernel_rfl) (fun w hS => trivial) (hI.pick [0] (by decide) rfl) trivial (by kernel_rfl) (by kernel_rfl) (by kernel_rfl) ?_
            refine held_done (by kernel_rfl) ?_
            replace hI := hI.renum 1 rfl
            replace hI := hI.renum 2 rfl
            replace hI := hI.renum 4 rfl
            replace hI := hI.recell 5 [.slice A1055 y974.length c1056, .slice (some ⟨b1032, 0, none⟩) ((List.replicate a0.N.toNat (default : Int)).length) a0.N.toNat, .slice (some ⟨b1051, 0, none⟩) ((List.replicate a0.N.toNat (default : Int)).length) a0.N.toNat, .slice (some ⟨b1058, 0, none⟩) ((List.replicate a0.N.toNat (default : Int)).length) a0.N.toNat, .slice none 0 0, .int .i64 0, .int .i64 0] (by first | rfl | simp only [List.length_set, List.length_replicate, List.length_nil]) rfl
            exact hJ238 y974 _ _ ⟨_, b1060, A1055, c1056, (some ⟨b1032, 0, none⟩), a0.N.toNat, (some ⟨b1051, 0, none⟩), a0.N.toNat, (some ⟨b1058, 0, none⟩), a0.N.toNat, at_slots _ (by kernel_rfl), hI.pick [0, 5, 3, 1, 2, 4] (by decide) rfl⟩ H
          · refine (e_make (tInt .i64) (default : Int) 43 3 _ _ _ (.int .i64 0) a0.N rfl rfl rfl rfl rfl rfl (fun _ => rfl) (by kernel_rfl) (by kernel_rfl) g978 hI ?_)
            clear hI
            intro b1061 _ hI
            refine ⟨(hI.pick [0] (by decide) rfl), ?_⟩
            refine held_one (n := 3) 2 _ rfl (by kernel_rfl) (by kernel_rfl) (e_callf _ _ _ 32 #[] #[] #[.agg #[.int .i64 a0.N, .slice A0z0 a0.Edges.length c0z0], .int .i64 a1] #[.agg #[.int .i64 a0.N, .slice A0z0 a0.Edges.length c0z0], .int .i64 a1] rfl (by kernel_rfl) (by kernel_rfl) (by kernel_rfl) (enter32 _) (graph_rows_calls a0 A0z0 c0z0 a1 (memOf _) _ (Inv.start _) (hI.rd hr0z0) hl0z0 _ hy975) ?_)
            rintro _ _ ⟨A1064, c1065, rfl, hI'⟩
            replace hI := hI.call0 hI'
            clear hI'
            refine ⟨_, rfl, ?_⟩
            refine ⟨(hI.pick [0] (by decide) rfl), ?_⟩
            refine held_batch (n := 2) [] [(12, .p)] [(26, .agg #[.slice A1064 y974.length c1065, .slice (some ⟨b1032, 0, none⟩) a0.N.toNat a0.N.toNat, .slice (some ⟨b1051, 0, none⟩) a0.N.toNat a0.N.toNat, .slice (some ⟨b1061, 0, none⟩) a0.N.toNat a0.N.toNat, .slice none 0 0, .int .i64 0, .int .i64 0])] [] [true, true, true, true, true, true, true, true, true, true, true, true, true, false, false] (by kernel_rfl) (fun w hS => trivial) (hI.pick [0] (by decide) rfl) trivial (by kernel_rfl) (by kernel_rfl) (by kernel_rfl) ?_
            refine held_one (n := 1) 13 _ rfl (by kernel_rfl) (by kernel_rfl) (e_box 65 _ (.agg #[.slice A1064 y974.length c1065, .slice (some ⟨b1032, 0, none⟩) a0.N.toNat a0.N.toNat, .slice (some ⟨b1051, 0, none⟩) a0.N.toNat a0.N.toNat, .slice (some ⟨b1061, 0, none⟩) a0.N.toNat a0.N.toNat, .slice none 0 0, .int .i64 0, .int .i64 0]) [.slice A1064 y974.length c1065, .slice (some ⟨b1032, 0, none⟩) a0.N.toNat a0.N.toNat, .slice (some ⟨b1051, 0, none⟩) a0.N.toNat a0.N.toNat, .slice (some ⟨b1061, 0, none⟩) a0.N.toNat a0.N.toNat, .slice none 0 0, .int .i64 0, .int .i64 0] rfl (by kernel_rfl) rfl hI ?_)
            clear hI
            intro b1067 _ hI
            refine ⟨(hI.pick [0] (by decide) rfl), ?_⟩
            refine held_batch (n := 0) [] [(14, .p)] [(7, .pointer (some ⟨b1067, 0, none⟩))] [] [true, true, true, true, true, true, true, true, true, true, true, true, true, true, true] (by kernel_rfl) (fun w hS => trivial) (hI.pick [0] (by decide) rfl) trivial (by kernel_rfl) (by kernel_rfl) (by kernel_rfl) ?_
            refine held_done (by kernel_rfl) ?_
            replace hI := hI.renum 1 rfl
            replace hI := hI.renum 2 rfl
            replace hI := hI.renum 3 rfl
            replace hI := hI.recell 5 [.slice A1064 y974.length c1065, .slice (some ⟨b1032, 0, none⟩) ((List.replicate a0.N.toNat (default : Int)).length) a0.N.toNat, .slice (some ⟨b1051, 0, none⟩) ((List.replicate a0.N.toNat (default : Int)).length) a0.N.toNat, .slice (some ⟨b1061, 0, none⟩) ((List.replicate a0.N.toNat (default : Int)).length) a0.N.toNat, .slice none 0 0, .int .i64 0, .int .i64 0] (by first | rfl | simp only [List.length_set, List.length_replicate, List.length_nil]) rfl
            exact hJ238 y974 _ _ ⟨_, b1067, A1064, c1065, (some ⟨b1032, 0, none⟩), a0.N.toNat, (some ⟨b1051, 0, none⟩), a0.N.toNat, (some ⟨b1061, 0, none⟩), a0.N.toNat, at_slots _ (by kernel_rfl), hI.pick [0, 5, 4, 1, 2, 3] (by decide) rfl⟩ H
        · refine (e_make (tInt .i64) (default : Int) 43 3 _ _ _ (.int .i64 0) a0.N rfl rfl rfl rfl rfl rfl (fun _ => rfl) (by kernel_rfl) (by kernel_rfl) g978 hI ?_)
          clear hI
          intro b1068 _ hI
          refine ⟨(hI.pick [0] (by decide) rfl), ?_⟩
          refine held_each (n := 4) [2, 8] (by simp) (by kernel_rfl) ⟨⟨_, rfl, by kernel_rfl, ?_⟩, ⟨_, rfl, by kernel_rfl, ?_⟩, trivial⟩
          · refine (e_callf _ _ _ 32 #[] #[] #[.agg #[.int .i64 a0.N, .slice A0z0 a0.Edges.length c0z0], .int .i64 a1] #[.agg #[.int .i64 a0.N, .slice A0z0 a0.Edges.length c0z0], .int .i64 a1] rfl (by kernel_rfl) (by kernel_rfl) (by kernel_rfl) (enter32 _) (graph_rows_calls a0 A0z0 c0z0 a1 (memOf _) _ (Inv.start _) (hI.rd hr0z0) hl0z0 _ hy975) ?_)
            rintro _ _ ⟨A1072, c1073, rfl, hI'⟩
            replace hI := hI.call0 hI'
            clear hI'
            refine ⟨_, rfl, ?_⟩
            refine ⟨(hI.pick [0] (by decide) rfl), ?_⟩
            refine held_one (n := 3) 8 _ rfl (by kernel_rfl) (by kernel_rfl) (e_make (tInt .i64) (default : Int) 43 3 _ _ _ (.int .i64 0) a0.N rfl rfl rfl rfl rfl rfl (fun _ => rfl) (by kernel_rfl) (by kernel_rfl) g978 hI ?_)
            clear hI
            intro b1075 _ hI
            refine ⟨(hI.pick [0] (by decide) rfl), ?_⟩
            refine held_batch (n := 2) [] [(12, .p)] [(26, .agg #[.slice A1072 y974.length c1073, .slice (some ⟨b1032, 0, none⟩) a0.N.toNat a0.N.toNat, .slice (some ⟨b1075, 0, none⟩) a0.N.toNat a0.N.toNat, .slice (some ⟨b1068, 0, none⟩) a0.N.toNat a0.N.toNat, .slice none 0 0, .int .i64 0, .int .i64 0])] [] [true, true, true, true, true, true, true, true, true, true, true, true, true, false, false] (by kernel_rfl) (fun w hS => trivial) (hI.pick [0] (by decide) rfl) trivial (by kernel_rfl) (by kernel_rfl) (by kernel_rfl) ?_
            refine held_one (n := 1) 13 _ rfl (by kernel_rfl) (by kernel_rfl) (e_box 65 _ (.agg #[.slice A1072 y974.length c1073, .slice (some ⟨b1032, 0, none⟩) a0.N.toNat a0.N.toNat, .slice (some ⟨b1075, 0, none⟩) a0.N.toNat a0.N.toNat, .slice (some ⟨b1068, 0, none⟩) a0.N.toNat a0.N.toNat, .slice none 0 0, .int .i64 0, .int .i64 0]) [.slice A1072 y974.length c1073, .slice (some ⟨b1032, 0, none⟩) a0.N.toNat a0.N.toNat, .slice (some ⟨b1075, 0, none⟩) a0.N.toNat a0.N.toNat, .slice (some ⟨b1068, 0, none⟩) a0.N.toNat a0.N.toNat, .slice none 0 0, .int .i64 0, .int .i64 0] rfl (by kernel_rfl) rfl hI ?_)
            clear hI
            intro b1077 _ hI
            refine ⟨(hI.pick [0] (by decide) rfl), ?_⟩
            refine held_batch (n := 0) [] [(14, .p)] [(7, .pointer (some ⟨b1077, 0, none⟩))] [] [true, true, true, true, true, true, true, true, true, true, true, true, true, true, true] (by kernel_rfl) (fun w hS => trivial) (hI.pick [0] (by decide) rfl) trivial (by kernel_rfl) (by kernel_rfl) (by kernel_rfl) ?_
            refine held_done (by kernel_rfl) ?_
            replace hI := hI.renum 1 rfl
            replace hI := hI.renum 2 rfl
            replace hI := hI.renum 4 rfl
            replace hI := hI.recell 5 [.slice A1072 y974.length c1073, .slice (some ⟨b1032, 0, none⟩) ((List.replicate a0.N.toNat (default : Int)).length) a0.N.toNat, .slice (some ⟨b1075, 0, none⟩) ((List.replicate a0.N.toNat (default : Int)).length) a0.N.toNat, .slice (some ⟨b1068, 0, none⟩) ((List.replicate a0.N.toNat (default : Int)).length) a0.N.toNat, .slice none 0 0, .int .i64 0, .int .i64 0] (by first | rfl | simp only [List.length_set, List.length_replicate, List.length_nil]) rfl
            exact hJ238 y974 _ _ ⟨_, b1077, A1072, c1073, (some ⟨b1032, 0, none⟩), a0.N.toNat, (some ⟨b1075, 0, none⟩), a0.N.toNat, (some ⟨b1068, 0, none⟩), a0.N.toNat, at_slots _ (by kernel_rfl), hI.pick [0, 5, 3, 1, 4, 2] (by decide) rfl⟩ H
          · refine (e_make (tInt .i64) (default : Int) 43 3 _ _ _ (.int .i64 0) a0.N rfl rfl rfl rfl rfl rfl (fun _ => rfl) (by kernel_rfl) (by kernel_rfl) g978 hI ?_)
            clear hI
            intro b1078 _ hI
            refine ⟨(hI.pick [0] (by decide) rfl), ?_⟩
            refine held_one (n := 3) 2 _ rfl (by kernel_rfl) (by kernel_rfl) (e_callf _ _ _ 32 #[] #[] #[.agg #[.int .i64 a0.N, .slice A0z0 a0.Edges.length c0z0], .int .i64 a1] #[.agg #[.int .i64 a0.N, .slice A0z0 a0.Edges.length c0z0], .int .i64 a1] rfl (by kernel_rfl) (by kernel_rfl) (by kernel_rfl) (enter32 _) (graph_rows_calls a0 A0z0 c0z0 a1 (memOf _) _ (Inv.start _) (hI.rd hr0z0) hl0z0 _ hy975) ?_)
            rintro _ _ ⟨A1081, c1082, rfl, hI'⟩
            replace hI := hI.call0 hI'
            clear hI'
            refine ⟨_, rfl, ?_⟩
            refine ⟨(hI.pick [0] (by decide) rfl), ?_⟩
            refine held_batch (n := 2) [] [(12, .p)] [(26, .agg #[.slice A1081 y974.length c1082, .slice (some ⟨b1032, 0, none⟩) a0.N.toNat a0.N.toNat, .slice (some ⟨b1078, 0, none⟩) a0.N.toNat a0.N.toNat, .slice (some ⟨b1068, 0, none⟩) a0.N.toNat a0.N.toNat, .slice none 0 0, .int .i64 0, .int .i64 0])] [] [true, true, true, true, true, true, true, true, true, true, true, true, true, false, false] (by kernel_rfl) (fun w hS => trivial) (hI.pick [0] (by decide) rfl) trivial (by kernel_rfl) (by kernel_rfl) (by kernel_rfl) ?_
            refine held_one (n := 1) 13 _ rfl (by kernel_rfl) (by kernel_rfl) (e_box 65 _ (.agg #[.slice A1081 y974.length c1082, .slice (some ⟨b1032, 0, none⟩) a0.N.toNat a0.N.toNat, .slice (some ⟨b1078, 0, none⟩) a0.N.toNat a0.N.toNat, .slice (some ⟨b1068, 0, none⟩) a0.N.toNat a0.N.toNat, .slice none 0 0, .int .i64 0, .int .i64 0]) [.slice A1081 y974.length c1082, .slice (some ⟨b1032, 0, none⟩) a0.N.toNat a0.N.toNat, .slice (some ⟨b1078, 0, none⟩) a0.N.toNat a0.N.toNat, .slice (some ⟨b1068, 0, none⟩) a0.N.toNat a0.N.toNat, .slice none 0 0, .int .i64 0, .int .i64 0] rfl (by kernel_rfl) rfl hI ?_)
            clear hI
            intro b1084 _ hI
            refine ⟨(hI.pick [0] (by decide) rfl), ?_⟩
            refine held_batch (n := 0) [] [(14, .p)] [(7, .pointer (some ⟨b1084, 0, none⟩))] [] [true, true, true, true, true, true, true, true, true, true, true, true, true, true, true] (by kernel_rfl) (fun w hS => trivial) (hI.pick [0] (by decide) rfl) trivial (by kernel_rfl) (by kernel_rfl) (by kernel_rfl) ?_
            refine held_done (by kernel_rfl) ?_
            replace hI := hI.renum 1 rfl
            replace hI := hI.renum 2 rfl
            replace hI := hI.renum 3 rfl
            replace hI := hI.recell 5 [.slice A1081 y974.length c1082, .slice (some ⟨b1032, 0, none⟩) ((List.replicate a0.N.toNat (default : Int)).length) a0.N.toNat, .slice (some ⟨b1078, 0, none⟩) ((List.replicate a0.N.toNat (default : Int)).length) a0.N.toNat, .slice (some ⟨b1068, 0, none⟩) ((List.replicate a0.N.toNat (default : Int)).length) a0.N.toNat, .slice none 0 0, .int .i64 0, .int .i64 0] (by first | rfl | simp only [List.length_set, List.length_replicate, List.length_nil]) rfl
            exact hJ238 y974 _ _ ⟨_, b1084, A1081, c1082, (some ⟨b1032, 0, none⟩), a0.N.toNat, (some ⟨b1078, 0, none⟩), a0.N.toNat, (some ⟨b1068, 0, none⟩), a0.N.toNat, at_slots _ (by kernel_rfl), hI.pick [0, 5, 4, 1, 3, 2] (by decide) rfl⟩ H
      · refine (e_make (tInt .i64) (default : Int) 43 3 _ _ _ (.int .i64 0) a0.N rfl rfl rfl rfl rfl rfl (fun _ => rfl) (by kernel_rfl) (by kernel_rfl) g978 hI ?_)
        clear hI
        intro b1085 _ hI
        refine ⟨(hI.pick [0] (by decide) rfl), ?_⟩
        refine held_each (n := 5) [2, 5, 11] (by simp) (by kernel_rfl) ⟨⟨_, rfl, by kernel_rfl, ?_⟩, ⟨_, rfl, by kernel_rfl, ?_⟩, ⟨_, rfl, by kernel_rfl, ?_⟩, trivial⟩
        · refine (e_callf _ _ _ 32 #[] #[] #[.agg #[.int .i64 a0.N, .slice A0z0 a0.Edges.length c0z0], .int .i64 a1] #[.agg #[.int .i64 a0.N, .slice A0z0 a0.Edges.length c0z0], .int .i64 a1] rfl (by kernel_rfl) (by kernel_rfl) (by kernel_rfl) (enter32 _) (graph_rows_calls a0 A0z0 c0z0 a1 (memOf _) _ (Inv.start _) (hI.rd hr0z0) hl0z0 _ hy975) ?_)
          rintro _ _ ⟨A1090, c1091, rfl, hI'⟩
          replace hI := hI.call0 hI'
          clear hI'
          refine ⟨_, rfl, ?_⟩
          refine ⟨(hI.pick [0] (by decide) rfl), ?_⟩
          refine held_each (n := 4) [5, 11] (by simp) (by kernel_rfl) ⟨⟨_, rfl, by kernel_rfl, ?_⟩, ⟨_, rfl, by kernel_rfl, ?_⟩, trivial⟩
          · refine (e_make (tInt .i64) (default : Int) 43 3 _ _ _ (.int .i64 0) a0.N rfl rfl rfl rfl rfl rfl (fun _ => rfl) (by kernel_rfl) (by kernel_rfl) g978 hI ?_)
            clear hI
            intro b1094 _ hI
            refine ⟨(hI.pick [0] (by decide) rfl), ?_⟩
            refine held_one (n := 3) 11 _ rfl (by kernel_rfl) (by kernel_rfl) (e_make (tInt .i64) (default : Int) 43 3 _ _ _ (.int .i64 0) a0.N rfl rfl rfl rfl rfl rfl (fun _ => rfl) (by kernel_rfl) (by kernel_rfl) g978 hI ?_)
            clear hI
            intro b1096 _ hI
            refine ⟨(hI.pick [0] (by decide) rfl), ?_⟩
            refine held_batch (n := 2) [] [(12, .p)] [(26, .agg #[.slice A1090 y974.length c1091, .slice (some ⟨b1094, 0, none⟩) a0.N.toNat a0.N.toNat, .slice (some ⟨b1085, 0, none⟩) a0.N.toNat a0.N.toNat, .slice (some ⟨b1096, 0, none⟩) a0.N.toNat a0.N.toNat, .slice none 0 0, .int .i64 0, .int .i64 0])] [] [true, true, true, true, true, true, true, true, true, true, true, true, true, false, false] (by kernel_rfl) (fun w hS => trivial) (hI.pick [0] (by decide) rfl) trivial (by kernel_rfl) (by kernel_rfl) (by kernel_rfl) ?_
            refine held_one (n := 1) 13 _ rfl (by kernel_rfl) (by kernel_rfl) (e_box 65 _ (.agg #[.slice A1090 y974.length c1091, .slice (some ⟨b1094, 0, none⟩) a0.N.toNat a0.N.toNat, .slice (some ⟨b1085, 0, none⟩) a0.N.toNat a0.N.toNat, .slice (some ⟨b1096, 0, none⟩) a0.N.toNat a0.N.toNat, .slice none 0 0, .int .i64 0, .int .i64 0]) [.slice A1090 y974.length c1091, .slice (some ⟨b1094, 0, none⟩) a0.N.toNat a0.N.toNat, .slice (some ⟨b1085, 0, none⟩) a0.N.toNat a0.N.toNat, .slice (some ⟨b1096, 0, none⟩) a0.N.toNat a0.N.toNat, .slice none 0 0, .int .i64 0, .int .i64 0] rfl (by kernel_rfl) rfl hI ?_)
            clear hI
            intro b1098 _ hI
            refine ⟨(hI.pick [0] (by decide) rfl), ?_⟩
            refine held_batch (n := 0) [] [(14, .p)] [(7, .pointer (some ⟨b1098, 0, none⟩))] [] [true, true, true, true, true, true, true, true, true, true, true, true, true, true, true] (by kernel_rfl) (fun w hS => trivial) (hI.pick [0] (by decide) rfl) trivial (by kernel_rfl) (by kernel_rfl) (by kernel_rfl) ?_
            refine held_done (by kernel_rfl) ?_
            replace hI := hI.renum 1 rfl
            replace hI := hI.renum 3 rfl
            replace hI := hI.renum 4 rfl
            replace hI := hI.recell 5 [.slice A1090 y974.length c1091, .slice (some ⟨b1094, 0, none⟩) ((List.replicate a0.N.toNat (default : Int)).length) a0.N.toNat, .slice (some ⟨b1085, 0, none⟩) ((List.replicate a0.N.toNat (default : Int)).length) a0.N.toNat, .slice (some ⟨b1096, 0, none⟩) ((List.replicate a0.N.toNat (default : Int)).length) a0.N.toNat, .slice none 0 0, .int .i64 0, .int .i64 0] (by first | rfl | simp only [List.length_set, List.length_replicate, List.length_nil]) rfl
            exact hJ238 y974 _ _ ⟨_, b1098, A1090, c1091, (some ⟨b1094, 0, none⟩), a0.N.toNat, (some ⟨b1085, 0, none⟩), a0.N.toNat, (some ⟨b1096, 0, none⟩), a0.N.toNat, at_slots _ (by kernel_rfl), hI.pick [0, 5, 2, 3, 1, 4] (by decide) rfl⟩ H
          · refine (e_make (tInt .i64) (default : Int) 43 3 _ _ _ (.int .i64 0) a0.N rfl rfl rfl rfl rfl rfl (fun _ => rfl) (by kernel_rfl) (by kernel_rfl) g978 hI ?_)
            clear hI
            intro b1099 _ hI
            refine ⟨(hI.pick [0] (by decide) rfl), ?_⟩
            refine held_one (n := 3) 5 _ rfl (by kernel_rfl) (by kernel_rfl) (e_make (tInt .i64) (default : Int) 43 3 _ _ _ (.int .i64 0) a0.N rfl rfl rfl rfl rfl rfl (fun _ => rfl) (by kernel_rfl) (by kernel_rfl) g978 hI ?_)
            clear hI
            intro b1101 _ hI
            refine ⟨(hI.pick [0] (by decide) rfl), ?_⟩
            refine held_batch (n := 2) [] [(12, .p)] [(26, .agg #[.slice A1090 y974.length c1091, .slice (some ⟨b1101, 0, none⟩) a0.N.toNat a0.N.toNat, .slice (some ⟨b1085, 0, none⟩) a0.N.toNat a0.N.toNat, .slice (some ⟨b1099, 0, none⟩) a0.N.toNat a0.N.toNat, .slice none 0 0, .int .i64 0, .int .i64 0])] [] [true, true, true, true, true, true, true, true, true, true, true, true, true, false, false] (by kernel_rfl) (fun w hS => trivial) (hI.pick [0] (by decide) rfl) trivial (by kernel_rfl) (by kernel_rfl) (by kernel_rfl) ?_
            refine held_one (n := 1) 13 _ rfl (by kernel_rfl) (by kernel_rfl) (e_box 65 _ (.agg #[.slice A1090 y974.length c1091, .slice (some ⟨b1101, 0, none⟩) a0.N.toNat a0.N.toNat, .slice (some ⟨b1085, 0, none⟩) a0.N.toNat a0.N.toNat, .slice (some ⟨b1099, 0, none⟩) a0.N.toNat a0.N.toNat, .slice none 0 0, .int .i64 0, .int .i64 0]) [.slice A1090 y974.length c1091, .slice (some ⟨b1101, 0, none⟩) a0.N.toNat a0.N.toNat, .slice (some ⟨b1085, 0, none⟩) a0.N.toNat a0.N.toNat, .slice (some ⟨b1099, 0, none⟩) a0.N.toNat a0.N.toNat, .slice none 0 0, .int .i64 0, .int .i64 0] rfl (by kernel_rfl) rfl hI ?_)
            clear hI
            intro b1103 _ hI
            refine ⟨(hI.pick [0] (by decide) rfl), ?_⟩
            refine held_batch (n := 0) [] [(14, .p)] [(7, .pointer (some ⟨b1103, 0, none⟩))] [] [true, true, true, true, true, true, true, true, true, true, true, true, true, true, true] (by kernel_rfl) (fun w hS => trivial) (hI.pick [0] (by decide) rfl) trivial (by kernel_rfl) (by kernel_rfl) (by kernel_rfl) ?_
            refine held_done (by kernel_rfl) ?_
            replace hI := hI.renum 1 rfl
            replace hI := hI.renum 3 rfl
            replace hI := hI.renum 4 rfl
            replace hI := hI.recell 5 [.slice A1090 y974.length c1091, .slice (some ⟨b1101, 0, none⟩) ((List.replicate a0.N.toNat (default : Int)).length) a0.N.toNat, .slice (some ⟨b1085, 0, none⟩) ((List.replicate a0.N.toNat (default : Int)).length) a0.N.toNat, .slice (some ⟨b1099, 0, none⟩) ((List.replicate a0.N.toNat (default : Int)).length) a0.N.toNat, .slice none 0 0, .int .i64 0, .int .i64 0] (by first | rfl | simp only [List.length_set, List.length_replicate, List.length_nil]) rfl
            exact hJ238 y974 _ _ ⟨_, b1103, A1090, c1091, (some ⟨b1101, 0, none⟩), a0.N.toNat, (some ⟨b1085, 0, none⟩), a0.N.toNat, (some ⟨b1099, 0, none⟩), a0.N.toNat, at_slots _ (by kernel_rfl), hI.pick [0, 5, 2, 4, 1, 3] (by decide) rfl⟩ H
        · refine (e_make (tInt .i64) (default : Int) 43 3 _ _ _ (.int .i64 0) a0.N rfl rfl rfl rfl rfl rfl (fun _ => rfl) (by kernel_rfl) (by kernel_rfl) g978 hI ?_)
          clear hI
          intro b1104 _ hI
          refine ⟨(hI.pick [0] (by decide) rfl), ?_⟩
          refine held_each (n := 4) [2, 11] (by simp) (by kernel_rfl) ⟨⟨_, rfl, by kernel_rfl, ?_⟩, ⟨_, rfl, by kernel_rfl, ?_⟩, trivial⟩
          · refine (e_callf _ _ _ 32 #[] #[] #[.agg #[.int .i64 a0.N, .slice A0z0 a0.Edges.length c0z0], .int .i64 a1] #[.agg #[.int .i64 a0.N, .slice A0z0 a0.Edges.length c0z0], .int .i64 a1] rfl (by kernel_rfl) (by kernel_rfl) (by kernel_rfl) (enter32 _) (graph_rows_calls a0 A0z0 c0z0 a1 (memOf _) _ (Inv.start _) (hI.rd hr0z0) hl0z0 _ hy975) ?_)
            rintro _ _ ⟨A1108, c1109, rfl, hI'⟩
            replace hI := hI.call0 hI'
            clear hI'
            refine ⟨_, rfl, ?_⟩
            refine ⟨(hI.pick [0] (by decide) rfl), ?_⟩
            refine held_one (n := 3) 11 _ rfl (by kernel_rfl) (by kernel_rfl) (e_make (tInt .i64) (default : Int) 43 3 _ _ _ (.int .i64 0) a0.N rfl rfl rfl rfl rfl rfl (fun _ => rfl) (by kernel_rfl) (by kernel_rfl) g978 hI ?_)
            clear hI
            intro b1111 _ hI
            refine ⟨(hI.pick [0] (by decide) rfl), ?_⟩
            refine held_batch (n := 2) [] [(12, .p)] [(26, .agg #[.slice A1108 y974.length c1109, .slice (some ⟨b1104, 0, none⟩) a0.N.toNat a0.N.toNat, .slice (some ⟨b1085, 0, none⟩) a0.N.toNat a0.N.toNat, .slice (some ⟨b1111, 0, none⟩) a0.N.toNat a0.N.toNat, .slice none 0 0, .int .i64 0, .int .i64 0])] [] [true, true, true, true, true, true, true, true, true, true, true, true, true, false, false] (by kernel_rfl) (fun w hS => trivial) (hI.pick [0] (by decide) rfl) trivial (by kernel_rfl) (by kernel_rfl) (by kernel_rfl) ?_
            refine held_one (n := 1) 13 _ rfl (by kernel_rfl) (by kernel_rfl) (e_box 65 _ (.agg #[.slice A1108 y974.length c1109, .slice (some ⟨b1104, 0, none⟩) a0.N.toNat a0.N.toNat, .slice (some ⟨b1085, 0, none⟩) a0.N.toNat a0.N.toNat, .slice (some ⟨b1111, 0, none⟩) a0.N.toNat a0.N.toNat, .slice none 0 0, .int .i64 0, .int .i64 0]) [.slice A1108 y974.length c1109, .slice (some ⟨b1104, 0, none⟩) a0.N.toNat a0.N.toNat, .slice (some ⟨b1085, 0, none⟩) a0.N.toNat a0.N.toNat, .slice (some ⟨b1111, 0, none⟩) a0.N.toNat a0.N.toNat, .slice none 0 0, .int .i64 0, .int .i64 0] rfl (by kernel_rfl) rfl hI ?_)
            clear hI
            intro b1113 _ hI
            refine ⟨(hI.pick [0] (by decide) rfl), ?_⟩
            refine held_batch (n := 0) [] [(14, .p)] [(7, .pointer (some ⟨b1113, 0, none⟩))] [] [true, true, true, true, true, true, true, true, true, true, true, true, true, true, true] (by kernel_rfl) (fun w hS => trivial) (hI.pick [0] (by decide) rfl) trivial (by kernel_rfl) (by kernel_rfl) (by kernel_rfl) ?_
            refine held_done (by kernel_rfl) ?_
            replace hI := hI.renum 1 rfl
            replace hI := hI.renum 2 rfl
            replace hI := hI.renum 4 rfl
            replace hI := hI.recell 5 [.slice A1108 y974.length c1109, .slice (some ⟨b1104, 0, none⟩) ((List.replicate a0.N.toNat (default : Int)).length) a0.N.toNat, .slice (some ⟨b1085, 0, none⟩) ((List.replicate a0.N.toNat (default : Int)).length) a0.N.toNat, .slice (some ⟨b1111, 0, none⟩) ((List.replicate a0.N.toNat (default : Int)).length) a0.N.toNat, .slice none 0 0, .int .i64 0, .int .i64 0] (by first | rfl | simp only [List.length_set, List.length_replicate, List.length_nil]) rfl
            exact hJ238 y974 _ _ ⟨_, b1113, A1108, c1109, (some ⟨b1104, 0, none⟩), a0.N.toNat, (some ⟨b1085, 0, none⟩), a0.N.toNat, (some ⟨b1111, 0, none⟩), a0.N.toNat, at_slots _ (by kernel_rfl), hI.pick [0, 5, 3, 2, 1, 4] (by decide) rfl⟩ H
          · refine (e_make (tInt .i64) (default : Int) 43 3 _ _ _ (.int .i64 0) a0.N rfl rfl rfl rfl rfl rfl (fun _ => rfl) (by kernel_rfl) (by kernel_rfl) g978 hI ?_)
            clear hI
            intro b1114 _ hI
            refine ⟨(hI.pick [0] (by decide) rfl), ?_⟩
            refine held_one (n := 3) 2 _ rfl (by kernel_rfl) (by kernel_rfl) (e_callf _ _ _ 32 #[] #[] #[.agg #[.int .i64 a0.N, .slice A0z0 a0.Edges.length c0z0], .int .i64 a1] #[.agg #[.int .i64 a0.N, .slice A0z0 a0.Edges.length c0z0], .int .i64 a1] rfl (by kernel_rfl) (by kernel_rfl) (by kernel_rfl) (enter32 _) (graph_rows_calls a0 A0z0 c0z0 a1 (memOf _) _ (Inv.start _) (hI.rd hr0z0) hl0z0 _ hy975) ?_)
            rintro _ _ ⟨A1117, c1118, rfl, hI'⟩
            replace hI := hI.call0 hI'
            clear hI'
            refine ⟨_, rfl, ?_⟩
            refine ⟨(hI.pick [0] (by decide) rfl), ?_⟩
            refine held_batch (n := 2) [] [(12, .p)] [(26, .agg #[.slice A1117 y974.length c1118, .slice (some ⟨b1104, 0, none⟩) a0.N.toNat a0.N.toNat, .slice (some ⟨b1085, 0, none⟩) a0.N.toNat a0.N.toNat, .slice (some ⟨b1114, 0, none⟩) a0.N.toNat a0.N.toNat, .slice none 0 0, .int .i64 0, .int .i64 0])] [] [true, true, true, true, true, true, true, true, true, true, true, true, true, false, false] (by kernel_rfl) (fun w hS => trivial) (hI.pick [0] (by decide) rfl) trivial (by kernel_rfl) (by kernel_rfl) (by kernel_rfl) ?_
            refine held_one (n := 1) 13 _ rfl (by kernel_rfl) (by kernel_rfl) (e_box 65 _ (.agg #[.slice A1117 y974.length c1118, .slice (some ⟨b1104, 0, none⟩) a0.N.toNat a0.N.toNat, .slice (some ⟨b1085, 0, none⟩) a0.N.toNat a0.N.toNat, .slice (some ⟨b1114, 0, none⟩) a0.N.toNat a0.N.toNat, .slice none 0 0, .int .i64 0, .int .i64 0]) [.slice A1117 y974.length c1118, .slice (some ⟨b1104, 0, none⟩) a0.N.toNat a0.N.toNat, .slice (some ⟨b1085, 0, none⟩) a0.N.toNat a0.N.toNat, .slice (some ⟨b1114, 0, none⟩) a0.N.toNat a0.N.toNat, .slice none 0 0, .int .i64 0, .int .i64 0] rfl (by kernel_rfl) rfl hI ?_)
            clear hI
            intro b1120 _ hI
            refine ⟨(hI.pick [0] (by decide) rfl), ?_⟩
            refine held_batch (n := 0) [] [(14, .p)] [(7, .pointer (some ⟨b1120, 0, none⟩))] [] [true, true, true, true, true, true, true, true, true, true, true, true, true, true, true] (by kernel_rfl) (fun w hS => trivial) (hI.pick [0] (by decide) rfl) trivial (by kernel_rfl) (by kernel_rfl) (by kernel_rfl) ?_
            refine held_done (by kernel_rfl) ?_
            replace hI := hI.renum 1 rfl
            replace hI := hI.renum 2 rfl
            replace hI := hI.renum 3 rfl
            replace hI := hI.recell 5 [.slice A1117 y974.length c1118, .slice (some ⟨b1104, 0, none⟩) ((List.replicate a0.N.toNat (default : Int)).length) a0.N.toNat, .slice (some ⟨b1085, 0, none⟩) ((List.replicate a0.N.toNat (default : Int)).length) a0.N.toNat, .slice (some ⟨b1114, 0, none⟩) ((List.replicate a0.N.toNat (default : Int)).length) a0.N.toNat, .slice none 0 0, .int .i64 0, .int .i64 0] (by first | rfl | simp only [List.length_set, List.length_replicate, List.length_nil]) rfl
            exact hJ238 y974 _ _ ⟨_, b1120, A1117, c1118, (some ⟨b1104, 0, none⟩), a0.N.toNat, (some ⟨b1085, 0, none⟩), a0.N.toNat, (some ⟨b1114, 0, none⟩), a0.N.toNat, at_slots _ (by kernel_rfl), hI.pick [0, 5, 4, 2, 1, 3] (by decide) rfl⟩ H
        · refine (e_make (tInt .i64) (default : Int) 43 3 _ _ _ (.int .i64 0) a0.N rfl rfl rfl rfl rfl rfl (fun _ => rfl) (by kernel_rfl) (by kernel_rfl) g978 hI ?_)
          clear hI
          intro b1121 _ hI
          refine ⟨(hI.pick [0] (by decide) rfl), ?_⟩
          refine held_each (n := 4) [2, 5] (by simp) (by kernel_rfl) ⟨⟨_, rfl, by kernel_rfl, ?_⟩, ⟨_, rfl, by kernel_rfl, ?_⟩, trivial⟩
          · refine (e_callf _ _ _ 32 #[] #[] #[.agg #[.int .i64 a0.N, .slice A0z0 a0.Edges.length c0z0], .int .i64 a1] #[.agg #[.int .i64 a0.N, .slice A0z0 a0.Edges.length c0z0], .int .i64 a1] rfl (by kernel_rfl) (by kernel_rfl) (by kernel_rfl) (enter32 _) (graph_rows_calls a0 A0z0 c0z0 a1 (memOf _) _ (Inv.start _) (hI.rd hr0z0) hl0z0 _ hy975) ?_)
            rintro _ _ ⟨A1125, c1126, rfl, hI'⟩
            replace hI := hI.call0 hI'
            clear hI'
            refine ⟨_, rfl, ?_⟩
            refine ⟨(hI.pick [0] (by decide) rfl), ?_⟩
            refine held_one (n := 3) 5 _ rfl (by kernel_rfl) (by kernel_rfl) (e_make (tInt .i64) (default : Int) 43 3 _ _ _ (.int .i64 0) a0.N rfl rfl rfl rfl rfl rfl (fun _ => rfl) (by kernel_rfl) (by kernel_rfl) g978 hI ?_)
            clear hI
            intro b1128 _ hI
            refine ⟨(hI.pick [0] (by decide) rfl), ?_⟩
            refine held_batch (n := 2) [] [(12, .p)] [(26, .agg #[.slice A1125 y974.length c1126, .slice (some ⟨b1128, 0, none⟩) a0.N.toNat a0.N.toNat, .slice (some ⟨b1085, 0, none⟩) a0.N.toNat a0.N.toNat, .slice (some ⟨b1121, 0, none⟩) a0.N.toNat a0.N.toNat, .slice none 0 0, .int .i64 0, .int .i64 0])] [] [true, true, true, true, true, true, true, true, true, true, true, true, true, false, false] (by kernel_rfl) (fun w hS => trivial) (hI.pick [0] (by decide) rfl) trivial (by kernel_rfl) (by kernel_rfl) (by kernel_rfl) ?_
            refine held_one (n := 1) 13 _ rfl (by kernel_rfl) (by kernel_rfl) (e_box 65 _ (.agg #[.slice A1125 y974.length c1126, .slice (some ⟨b1128, 0, none⟩) a0.N.toNat a0.N.toNat, .slice (some ⟨b1085, 0, none⟩) a0.N.toNat a0.N.toNat, .slice (some ⟨b1121, 0, none⟩) a0.N.toNat a0.N.toNat, .slice none 0 0, .int .i64 0, .int .i64 0]) [.slice A1125 y974.length c1126, .slice (some ⟨b1128, 0, none⟩) a0.N.toNat a0.N.toNat, .slice (some ⟨b1085, 0, none⟩) a0.N.toNat a0.N.toNat, .slice (some ⟨b1121, 0, none⟩) a0.N.toNat a0.N.toNat, .slice none 0 0, .int .i64 0, .int .i64 0] rfl (by kernel_rfl) rfl hI ?_)
            clear hI
            intro b1130 _ hI
            refine ⟨(hI.pick [0] (by decide) rfl), ?_⟩
            refine held_batch (n := 0) [] [(14, .p)] [(7, .pointer (some ⟨b1130, 0, none⟩))] [] [true, true, true, true, true, true, true, true, true, true, true, true, true, true, true] (by kernel_rfl) (fun w hS => trivial) (hI.pick [0] (by decide) rfl) trivial (by kernel_rfl) (by kernel_rfl) (by kernel_rfl) ?_
            refine held_done (by kernel_rfl) ?_
            replace hI := hI.renum 1 rfl
            replace hI := hI.renum 2 rfl
            replace hI := hI.renum 4 rfl
            replace hI := hI.recell 5 [.slice A1125 y974.length c1126, .slice (some ⟨b1128, 0, none⟩) ((List.replicate a0.N.toNat (default : Int)).length) a0.N.toNat, .slice (some ⟨b1085, 0, none⟩) ((List.replicate a0.N.toNat (default : Int)).length) a0.N.toNat, .slice (some ⟨b1121, 0, none⟩) ((List.replicate a0.N.toNat (default : Int)).length) a0.N.toNat, .slice none 0 0, .int .i64 0, .int .i64 0] (by first | rfl | simp only [List.length_set, List.length_replicate, List.length_nil]) rfl
            exact hJ238 y974 _ _ ⟨_, b1130, A1125, c1126, (some ⟨b1128, 0, none⟩), a0.N.toNat, (some ⟨b1085, 0, none⟩), a0.N.toNat, (some ⟨b1121, 0, none⟩), a0.N.toNat, at_slots _ (by kernel_rfl), hI.pick [0, 5, 3, 4, 1, 2] (by decide) rfl⟩ H
          · refine (e_make (tInt .i64) (default : Int) 43 3 _ _ _ (.int .i64 0) a0.N rfl rfl rfl rfl rfl rfl (fun _ => rfl) (by kernel_rfl) (by kernel_rfl) g978 hI ?_)
            clear hI
            intro b1131 _ hI
            refine ⟨(hI.pick [0] (by decide) rfl), ?_⟩
            refine held_one (n := 3) 2 _ rfl (by kernel_rfl) (by kernel_rfl) (e_callf _ _ _ 32 #[] #[] #[.agg #[.int .i64 a0.N, .slice A0z0 a0.Edges.length c0z0], .int .i64 a1] #[.agg #[.int .i64 a0.N, .slice A0z0 a0.Edges.length c0z0], .int .i64 a1] rfl (by kernel_rfl) (by kernel_rfl) (by kernel_rfl) (enter32 _) (graph_rows_calls a0 A0z0 c0z0 a1 (memOf _) _ (Inv.start _) (hI.rd hr0z0) hl0z0 _ hy975) ?_)
            rintro _ _ ⟨A1134, c1135, rfl, hI'⟩
            replace hI := hI.call0 hI'
            clear hI'
            refine ⟨_, rfl, ?_⟩
            refine ⟨(hI.pick [0] (by decide) rfl), ?_⟩
            refine held_batch (n := 2) [] [(12, .p)] [(26, .agg #[.slice A1134 y974.length c1135, .slice (some ⟨b1131, 0, none⟩) a0.N.toNat a0.N.toNat, .slice (some ⟨b1085, 0, none⟩) a0.N.toNat a0.N.toNat, .slice (some ⟨b1121, 0, none⟩) a0.N.toNat a0.N.toNat, .slice none 0 0, .int .i64 0, .int .i64 0])] [] [true, true, true, true, true, true, true, true, true, true, true, true, true, false, false] (by kernel_rfl) (fun w hS => trivial) (hI.pick [0] (by decide) rfl) trivial (by kernel_rfl) (by kernel_rfl) (by kernel_rfl) ?_
            refine held_one (n := 1) 13 _ rfl (by kernel_rfl) (by kernel_rfl) (e_box 65 _ (.agg #[.slice A1134 y974.length c1135, .slice (some ⟨b1131, 0, none⟩) a0.N.toNat a0.N.toNat, .slice (some ⟨b1085, 0, none⟩) a0.N.toNat a0.N.toNat, .slice (some ⟨b1121, 0, none⟩) a0.N.toNat a0.N.toNat, .slice none 0 0, .int .i64 0, .int .i64 0]) [.slice A1134 y974.length c1135, .slice (some ⟨b1131, 0, none⟩) a0.N.toNat a0.N.toNat, .slice (some ⟨b1085, 0, none⟩) a0.N.toNat a0.N.toNat, .slice (some ⟨b1121, 0, none⟩) a0.N.toNat a0.N.toNat, .slice none 0 0, .int .i64 0, .int .i64 0] rfl (by kernel_rfl) rfl hI ?_)
            clear hI
            intro b1137 _ hI
            refine ⟨(hI.pick [0] (by decide) rfl), ?_⟩
            refine held_batch (n := 0) [] [(14, .p)] [(7, .pointer (some ⟨b1137, 0, none⟩))] [] [true, true, true, true, true, true, true, true, true, true, true, true, true, true, true] (by kernel_rfl) (fun w hS => trivial) (hI.pick [0] (by decide) rfl) trivial (by kernel_rfl) (by kernel_rfl) (by kernel_rfl) ?_
            refine held_done (by kernel_rfl) ?_
            replace hI := hI.renum 1 rfl
            replace hI := hI.renum 2 rfl
            replace hI := hI.renum 3 rfl
            replace hI := hI.recell 5 [.slice A1134 y974.length c1135, .slice (some ⟨b1131, 0, none⟩) ((List.replicate a0.N.toNat (default : Int)).length) a0.N.toNat, .slice (some ⟨b1085, 0, none⟩) ((List.replicate a0.N.toNat (default : Int)).length) a0.N.toNat, .slice (some ⟨b1121, 0, none⟩) ((List.replicate a0.N.toNat (default : Int)).length) a0.N.toNat, .slice none 0 0, .int .i64 0, .int .i64 0] (by first | rfl | simp only [List.length_set, List.length_replicate, List.length_nil]) rfl
            exact hJ238 y974 _ _ ⟨_, b1137, A1134, c1135, (some ⟨b1131, 0, none⟩), a0.N.toNat, (some ⟨b1085, 0, none⟩), a0.N.toNat, (some ⟨b1121, 0, none⟩), a0.N.toNat, at_slots _ (by kernel_rfl), hI.pick [0, 5, 4, 3, 1, 2] (by decide) rfl⟩ H
      · refine (e_make (tInt .i64) (default : Int) 43 3 _ _ _ (.int .i64 0) a0.N rfl rfl rfl rfl rfl rfl (fun _ => rfl) (by kernel_rfl) (by kernel_rfl) g978 hI ?_)
        clear hI
        intro b1138 _ hI
        refine ⟨(hI.pick [0] (by decide) rfl), ?_⟩
        refine held_each (n := 5) [2, 5, 8] (by simp) (by kernel_rfl) ⟨⟨_, rfl, by kernel_rfl, ?_⟩, ⟨_, rfl, by kernel_rfl, ?_⟩, ⟨_, rfl, by kernel_rfl, ?_⟩, trivial⟩
        · refine (e_callf _ _ _ 32 #[] #[] #[.agg #[.int .i64 a0.N, .slice A0z0 a0.Edges.length c0z0], .int .i64 a1] #[.agg #[.int .i64 a0.N, .slice A0z0 a0.Edges.length c0z0], .int .i64 a1] rfl (by kernel_rfl) (by kernel_rfl) (by kernel_rfl) (enter32 _) (graph_rows_calls a0 A0z0 c0z0 a1 (memOf _) _ (Inv.start _) (hI.rd hr0z0) hl0z0 _ hy975) ?_)
          rintro _ _ ⟨A1143, c1144, rfl, hI'⟩
          replace hI := hI.call0 hI'
          clear hI'
          refine ⟨_, rfl, ?_⟩
          refine ⟨(hI.pick [0] (by decide) rfl), ?_⟩
          refine held_each (n := 4) [5, 8] (by simp) (by kernel_rfl) ⟨⟨_, rfl, by kernel_rfl, ?_⟩, ⟨_, rfl, by kernel_rfl, ?_⟩, trivial⟩
          · refine (e_make (tInt .i64) (default : Int) 43 3 _ _ _ (.int .i64 0) a0.N rfl rfl rfl rfl rfl rfl (fun _ => rfl) (by kernel_rfl) (by kernel_rfl) g978 hI ?_)
            clear hI
            intro b1147 _ hI
            refine ⟨(hI.pick [0] (by decide) rfl), ?_⟩
            refine held_one (n := 3) 8 _ rfl (by kernel_rfl) (by kernel_rfl) (e_make (tInt .i64) (default : Int) 43 3 _ _ _ (.int .i64 0) a0.N rfl rfl rfl rfl rfl rfl (fun _ => rfl) (by kernel_rfl) (by kernel_rfl) g978 hI ?_)
            clear hI
            intro b1149 _ hI
            refine ⟨(hI.pick [0] (by decide) rfl), ?_⟩
            refine held_batch (n := 2) [] [(12, .p)] [(26, .agg #[.slice A1143 y974.length c1144, .slice (some ⟨b1147, 0, none⟩) a0.N.toNat a0.N.toNat, .slice (some ⟨b1149, 0, none⟩) a0.N.toNat a0.N.toNat, .slice (some ⟨b1138, 0, none⟩) a0.N.toNat a0.N.toNat, .slice none 0 0, .int .i64 0, .int .i64 0])] [] [true, true, true, true, true, true, true, true, true, true, true, true, true, false, false] (by kernel_rfl) (fun w hS => trivial) (hI.pick [0] (by decide) rfl) trivial (by kernel_rfl) (by kernel_rfl) (by kernel_rfl) ?_
            refine held_one (n := 1) 13 _ rfl (by kernel_rfl) (by kernel_rfl) (e_box 65 _ (.agg #[.slice A1143 y974.length c1144, .slice (some ⟨b1147, 0, none⟩) a0.N.toNat a0.N.toNat, .slice (some ⟨b1149, 0, none⟩) a0.N.toNat a0.N.toNat, .slice (some ⟨b1138, 0, none⟩) a0.N.toNat a0.N.toNat, .slice none 0 0, .int .i64 0, .int .i64 0]) [.slice A1143 y974.length c1144, .slice (some ⟨b1147, 0, none⟩) a0.N.toNat a0.N.toNat, .slice (some ⟨b1149, 0, none⟩) a0.N.toNat a0.N.toNat, .slice (some ⟨b1138, 0, none⟩) a0.N.toNat a0.N.toNat, .slice none 0 0, .int .i64 0, .int .i64 0] rfl (by kernel_rfl) rfl hI ?_)
            clear hI
            intro b1151 _ hI
            refine ⟨(hI.pick [0] (by decide) rfl), ?_⟩
            refine held_batch (n := 0) [] [(14, .p)] [(7, .pointer (some ⟨b1151, 0, none⟩))] [] [true, true, true, true, true, true, true, true, true, true, true, true, true, true, true] (by kernel_rfl) (fun w hS => trivial) (hI.pick [0] (by decide) rfl) trivial (by kernel_rfl) (by kernel_rfl) (by kernel_rfl) ?_
            refine held_done (by kernel_rfl) ?_
            replace hI := hI.renum 1 rfl
            replace hI := hI.renum 3 rfl
            replace hI := hI.renum 4 rfl
            replace hI := hI.recell 5 [.slice A1143 y974.length c1144, .slice (some ⟨b1147, 0, none⟩) ((List.replicate a0.N.toNat (default : Int)).length) a0.N.toNat, .slice (some ⟨b1149, 0, none⟩) ((List.replicate a0.N.toNat (default : Int)).length) a0.N.toNat, .slice (some ⟨b1138, 0, none⟩) ((List.replicate a0.N.toNat (default : Int)).length) a0.N.toNat, .slice none 0 0, .int .i64 0, .int .i64 0] (by first | rfl | simp only [List.length_set, List.length_replicate, List.length_nil]) rfl
            exact hJ238 y974 _ _ ⟨_, b1151, A1143, c1144, (some ⟨b1147, 0, none⟩), a0.N.toNat, (some ⟨b1149, 0, none⟩), a0.N.toNat, (some ⟨b1138, 0, none⟩), a0.N.toNat, at_slots _ (by kernel_rfl), hI.pick [0, 5, 2, 3, 4, 1] (by decide) rfl⟩ H
          · refine (e_make (tInt .i64) (default : Int) 43 3 _ _ _ (.int .i64 0) a0.N rfl rfl rfl rfl rfl rfl (fun _ => rfl) (by kernel_rfl) (by kernel_rfl) g978 hI ?_)
            clear hI
            intro b1152 _ hI
            refine ⟨(hI.pick [0] (by decide) rfl), ?_⟩
            refine held_one (n := 3) 5 _ rfl (by kernel_rfl) (by kernel_rfl) (e_make (tInt .i64) (default : Int) 43 3 _ _ _ (.int .i64 0) a0.N rfl rfl rfl rfl rfl rfl (fun _ => rfl) (by kernel_rfl) (by kernel_rfl) g978 hI ?_)
            clear hI
            intro b1154 _ hI
            refine ⟨(hI.pick [0] (by decide) rfl), ?_⟩
            refine held_batch (n := 2) [] [(12, .p)] [(26, .agg #[.slice A1143 y974.length c1144, .slice (some ⟨b1154, 0, none⟩) a0.N.toNat a0.N.toNat, .slice (some ⟨b1152, 0, none⟩) a0.N.toNat a0.N.toNat, .slice (some ⟨b1138, 0, none⟩) a0.N.toNat a0.N.toNat, .slice none 0 0, .int .i64 0, .int .i64 0])] [] [true, true, true, true, true, true, true, true, true, true, true, true, true, false, false] (by kernel_rfl) (fun w hS => trivial) (hI.pick [0] (by decide) rfl) trivial (by kernel_rfl) (by kernel_rfl) (by kernel_rfl) ?_
            refine held_one (n := 1) 13 _ rfl (by kernel_rfl) (by kernel_rfl) (e_box 65 _ (.agg #[.slice A1143 y974.length c1144, .slice (some ⟨b1154, 0, none⟩) a0.N.toNat a0.N.toNat, .slice (some ⟨b1152, 0, none⟩) a0.N.toNat a0.N.toNat, .slice (some ⟨b1138, 0, none⟩) a0.N.toNat a0.N.toNat, .slice none 0 0, .int .i64 0, .int .i64 0]) [.slice A1143 y974.length c1144, .slice (some ⟨b1154, 0, none⟩) a0.N.toNat a0.N.toNat, .slice (some ⟨b1152, 0, none⟩) a0.N.toNat a0.N.toNat, .slice (some ⟨b1138, 0, none⟩) a0.N.toNat a0.N.toNat, .slice none 0 0, .int .i64 0, .int .i64 0] rfl (by kernel_rfl) rfl hI ?_)
            clear hI
            intro b1156 _ hI
            refine ⟨(hI.pick [0] (by decide) rfl), ?_⟩
            refine held_batch (n := 0) [] [(14, .p)] [(7, .pointer (some ⟨b1156, 0, none⟩))] [] [true, true, true, true, true, true, true, true, true, true, true, true, true, true, true] (by kernel_rfl) (fun w hS => trivial) (hI.pick [0] (by decide) rfl) trivial (by kernel_rfl) (by kernel_rfl) (by kernel_rfl) ?_
            refine held_done (by kernel_rfl) ?_
            replace hI := hI.renum 1 rfl
            replace hI := hI.renum 3 rfl
            replace hI := hI.renum 4 rfl
            replace hI := hI.recell 5 [.slice A1143 y974.length c1144, .slice (some ⟨b1154, 0, none⟩) ((List.replicate a0.N.toNat (default : Int)).length) a0.N.toNat, .slice (some ⟨b1152, 0, none⟩) ((List.replicate a0.N.toNat (default : Int)).length) a0.N.toNat, .slice (some ⟨b1138, 0, none⟩) ((List.replicate a0.N.toNat (default : Int)).length) a0.N.toNat, .slice none 0 0, .int .i64 0, .int .i64 0] (by first | rfl | simp only [List.length_set, List.length_replicate, List.length_nil]) rfl
            exact hJ238 y974 _ _ ⟨_, b1156, A1143, c1144, (some ⟨b1154, 0, none⟩), a0.N.toNat, (some ⟨b1152, 0, none⟩), a0.N.toNat, (some ⟨b1138, 0, none⟩), a0.N.toNat, at_slots _ (by kernel_rfl), hI.pick [0, 5, 2, 4, 3, 1] (by decide) rfl⟩ H
        · refine (e_make (tInt .i64) (default : Int) 43 3 _ _ _ (.int .i64 0) a0.N rfl rfl rfl rfl rfl rfl (fun _ => rfl) (by kernel_rfl) (by kernel_rfl) g978 hI ?_)
          clear hI
          intro b1157 _ hI
          refine ⟨(hI.pick [0] (by decide) rfl), ?_⟩
          refine held_each (n := 4) [2, 8] (by simp) (by kernel_rfl) ⟨⟨_, rfl, by kernel_rfl, ?_⟩, ⟨_, rfl, by kernel_rfl, ?_⟩, trivial⟩
          · refine (e_callf _ _ _ 32 #[] #[] #[.agg #[.int .i64 a0.N, .slice A0z0 a0.Edges.length c0z0], .int .i64 a1] #[.agg #[.int .i64 a0.N, .slice A0z0 a0.Edges.length c0z0], .int .i64 a1] rfl (by kernel_rfl) (by kernel_rfl) (by kernel_rfl) (enter32 _) (graph_rows_calls a0 A0z0 c0z0 a1 (memOf _) _ (Inv.start _) (hI.rd hr0z0) hl0z0 _ hy975) ?_)
            rintro _ _ ⟨A1161, c1162, rfl, hI'⟩
            replace hI := hI.call0 hI'
            clear hI'
            refine ⟨_, rfl, ?_⟩
            refine ⟨(hI.pick [0] (by decide) rfl), ?_⟩
            refine held_one (n := 3) 8 _ rfl (by kernel_rfl) (by kernel_rfl) (e_make (tInt .i64) (default : Int) 43 3 _ _ _ (.int .i64 0) a0.N rfl rfl rfl rfl rfl rfl (fun _ => rfl) (by kernel_rfl) (by kernel_rfl) g978 hI ?_)
            clear hI
            intro b1164 _ hI
            refine ⟨(hI.pick [0] (by decide) rfl), ?_⟩
            refine held_batch (n := 2) [] [(12, .p)] [(26, .agg #[.slice A1161 y974.length c1162, .slice (some ⟨b1157, 0, none⟩) a0.N.toNat a0.N.toNat, .slice (some ⟨b1164, 0, none⟩) a0.N.toNat a0.N.toNat, .slice (some ⟨b1138, 0, none⟩) a0.N.toNat a0.N.toNat, .slice none 0 0, .int .i64 0, .int .i64 0])] [] [true, true, true, true, true, true, true, true, true, true, true, true, true, false, false] (by kernel_rfl) (fun w hS => trivial) (hI.pick [0] (by decide) rfl) trivial (by kernel_rfl) (by kernel_rfl) (by kernel_rfl) ?_
            refine held_one (n := 1) 13 _ rfl (by kernel_rfl) (by kernel_rfl) (e_box 65 _ (.agg #[.slice A1161 y974.length c1162, .slice (some ⟨b1157, 0, none⟩) a0.N.toNat a0.N.toNat, .slice (some ⟨b1164, 0, none⟩) a0.N.toNat a0.N.toNat, .slice (some ⟨b1138, 0, none⟩) a0.N.toNat a0.N.toNat, .slice none 0 0, .int .i64 0, .int .i64 0]) [.slice A1161 y974.length c1162, .slice (some ⟨b1157, 0, none⟩) a0.N.toNat a0.N.toNat, .slice (some ⟨b1164, 0, none⟩) a0.N.toNat a0.N.toNat, .slice (some ⟨b1138, 0, none⟩) a0.N.toNat a0.N.toNat, .slice none 0 0, .int .i64 0, .int .i64 0] rfl (by kernel_rfl) rfl hI ?_)
            clear hI
            intro b1166 _ hI
            refine ⟨(hI.pick [0] (by decide) rfl), ?_⟩
            refine held_batch (n := 0) [] [(14, .p)] [(7, .pointer (some ⟨b1166, 0, none⟩))] [] [true, true, true, true, true, true, true, true, true, true, true, true, true, true, true] (by kernel_rfl) (fun w hS => trivial) (hI.pick [0] (by decide) rfl) trivial (by kernel_rfl) (by kernel_rfl) (by kernel_rfl) ?_
            refine held_done (by kernel_rfl) ?_
            replace hI := hI.renum 1 rfl
            replace hI := hI.renum 2 rfl
            replace hI := hI.renum 4 rfl
            replace hI := hI.recell 5 [.slice A1161 y974.length c1162, .slice (some ⟨b1157, 0, none⟩) ((List.replicate a0.N.toNat (default : Int)).length) a0.N.toNat, .slice (some ⟨b1164, 0, none⟩) ((List.replicate a0.N.toNat (default : Int)).length) a0.N.toNat, .slice (some ⟨b1138, 0, none⟩) ((List.replicate a0.N.toNat (default : Int)).length) a0.N.toNat, .slice none 0 0, .int .i64 0, .int .i64 0] (by first | rfl | simp only [List.length_set, List.length_replicate, List.length_nil]) rfl
            exact hJ238 y974 _ _ ⟨_, b1166, A1161, c1162, (some ⟨b1157, 0, none⟩), a0.N.toNat, (some ⟨b1164, 0, none⟩), a0.N.toNat, (some ⟨b1138, 0, none⟩), a0.N.toNat, at_slots _ (by kernel_rfl), hI.pick [0, 5, 3, 2, 4, 1] (by decide) rfl⟩ H
          · refine (e_make (tInt .i64) (default : Int) 43 3 _ _ _ (.int .i64 0) a0.N rfl rfl rfl rfl rfl rfl (fun _ => rfl) (by kernel_rfl) (by kernel_rfl) g978 hI ?_)
            clear hI
            intro b1167 _ hI
            refine ⟨(hI.pick [0] (by decide) rfl), ?_⟩
            refine held_one (n := 3) 2 _ rfl (by kernel_rfl) (by kernel_rfl) (e_callf _ _ _ 32 #[] #[] #[.agg #[.int .i64 a0.N, .slice A0z0 a0.Edges.length c0z0], .int .i64 a1] #[.agg #[.int .i64 a0.N, .slice A0z0 a0.Edges.length c0z0], .int .i64 a1] rfl (by kernel_rfl) (by kernel_rfl) (by kernel_rfl) (enter32 _) (graph_rows_calls a0 A0z0 c0z0 a1 (memOf _) _ (Inv.start _) (hI.rd hr0z0) hl0z0 _ hy975) ?_)
            rintro _ _ ⟨A1170, c1171, rfl, hI'⟩
            replace hI := hI.call0 hI'
            clear hI'
            refine ⟨_, rfl, ?_⟩
            refine ⟨(hI.pick [0] (by decide) rfl), ?_⟩
            refine held_batch (n := 2) [] [(12, .p)] [(26, .agg #[.slice A1170 y974.length c1171, .slice (some ⟨b1157, 0, none⟩) a0.N.toNat a0.N.toNat, .slice (some ⟨b1167, 0, none⟩) a0.N.toNat a0.N.toNat, .slice (some ⟨b1138, 0, none⟩) a0.N.toNat a0.N.toNat, .slice none 0 0, .int .i64 0, .int .i64 0])] [] [true, true, true, true, true, true, true, true, true, true, true, true, true, false, false] (by kernel_rfl) (fun w hS => trivial) (hI.pick [0] (by decide) rfl) trivial (by kernel_rfl) (by kernel_rfl) (by kernel_rfl) ?_
            refine held_one (n := 1) 13 _ rfl (by kernel_rfl) (by kernel_rfl) (e_box 65 _ (.agg #[.slice A1170 y974.length c1171, .slice (some ⟨b1157, 0, none⟩) a0.N.toNat a0.N.toNat, .slice (some ⟨b1167, 0, none⟩) a0.N.toNat a0.N.toNat, .slice (some ⟨b1138, 0, none⟩) a0.N.toNat a0.N.toNat, .slice none 0 0, .int .i64 0, .int .i64 0]) [.slice A1170 y974.length c1171, .slice (some ⟨b1157, 0, none⟩) a0.N.toNat a0.N.toNat, .slice (some ⟨b1167, 0, none⟩) a0.N.toNat a0.N.toNat, .slice (some ⟨b1138, 0, none⟩) a0.N.toNat a0.N.toNat, .slice none 0 0, .int .i64 0, .int .i64 0] rfl (by kernel_rfl) rfl hI ?_)
            clear hI
            intro b1173 _ hI
            refine ⟨(hI.pick [0] (by decide) rfl), ?_⟩
            refine held_batch (n := 0) [] [(14, .p)] [(7, .pointer (some ⟨b1173, 0, none⟩))] [] [true, true, true, true, true, true, true, true, true, true, true, true, true, true, true] (by kernel_rfl) (fun w hS => trivial) (hI.pick [0] (by decide) rfl) trivial (by kernel_rfl) (by kernel_rfl) (by kernel_rfl) ?_
            refine held_done (by kernel_rfl) ?_
            replace hI := hI.renum 1 rfl
            replace hI := hI.renum 2 rfl
            replace hI := hI.renum 3 rfl
            replace hI := hI.recell 5 [.slice A1170 y974.length c1171, .slice (some ⟨b1157, 0, none⟩) ((List.replicate a0.N.toNat (default : Int)).length) a0.N.toNat, .slice (some ⟨b1167, 0, none⟩) ((List.replicate a0.N.toNat (default : Int)).length) a0.N.toNat, .slice (some ⟨b1138, 0, none⟩) ((List.replicate a0.N.toNat (default : Int)).length) a0.N.toNat, .slice none 0 0, .int .i64 0, .int .i64 0] (by first | rfl | simp only [List.length_set, List.length_replicate, List.length_nil]) rfl
            exact hJ238 y974 _ _ ⟨_, b1173, A1170, c1171, (some ⟨b1157, 0, none⟩), a0.N.toNat, (some ⟨b1167, 0, none⟩), a0.N.toNat, (some ⟨b1138, 0, none⟩), a0.N.toNat, at_slots _ (by kernel_rfl), hI.pick [0, 5, 4, 2, 3, 1] (by decide) rfl⟩ H
        · refine (e_make (tInt .i64) (default : Int) 43 3 _ _ _ (.int .i64 0) a0.N rfl rfl rfl rfl rfl rfl (fun _ => rfl) (by kernel_rfl) (by kernel_rfl) g978 hI ?_)
          clear hI
          intro b1174 _ hI
          refine ⟨(hI.pick [0] (by decide) rfl), ?_⟩
          refine held_each (n := 4) [2, 5] (by simp) (by kernel_rfl) ⟨⟨_, rfl, by kernel_rfl, ?_⟩, ⟨_, rfl, by kernel_rfl, ?_⟩, trivial⟩
          · refine (e_callf _ _ _ 32 #[] #[] #[.agg #[.int .i64 a0.N, .slice A0z0 a0.Edges.length c0z0], .int .i64 a1] #[.agg #[.int .i64 a0.N, .slice A0z0 a0.Edges.length c0z0], .int .i64 a1] rfl (by kernel_rfl) (by kernel_rfl) (by kernel_rfl) (enter32 _) (graph_rows_calls a0 A0z0 c0z0 a1 (memOf _) _ (Inv.start _) (hI.rd hr0z0) hl0z0 _ hy975) ?_)
            rintro _ _ ⟨A1178, c1179, rfl, hI'⟩
            replace hI := hI.call0 hI'
            clear hI'
            refine ⟨_, rfl, ?_⟩
            refine ⟨(hI.pick [0] (by decide) rfl), ?_⟩
            refine held_one (n := 3) 5 _ rfl (by kernel_rfl) (by kernel_rfl) (e_make (tInt .i64) (default : Int) 43 3 _ _ _ (.int .i64 0) a0.N rfl rfl rfl rfl rfl rfl (fun _ => rfl) (by kernel_rfl) (by kernel_rfl) g978 hI ?_)
            clear hI
            intro b1181 _ hI
            refine ⟨(hI.pick [0] (by decide) rfl), ?_⟩
            refine held_batch (n := 2) [] [(12, .p)] [(26, .agg #[.slice A1178 y974.length c1179, .slice (some ⟨b1181, 0, none⟩) a0.N.toNat a0.N.toNat, .slice (some ⟨b1174, 0, none⟩) a0.N.toNat a0.N.toNat, .slice (some ⟨b1138, 0, none⟩) a0.N.toNat a0.N.toNat, .slice none 0 0, .int .i64 0, .int .i64 0])] [] [true, true, true, true, true, true, true, true, true, true, true, true, true, false, false] (by kernel_rfl) (fun w hS => trivial) (hI.pick [0] (by decide) rfl) trivial (by kernel_rfl) (by kernel_rfl) (by kernel_rfl) ?_
            refine held_one (n := 1) 13 _ rfl (by kernel_rfl) (by kernel_rfl) (e_box 65 _ (.agg #[.slice A1178 y974.length c1179, .slice (some ⟨b1181, 0, none⟩) a0.N.toNat a0.N.toNat, .slice (some ⟨b1174, 0, none⟩) a0.N.toNat a0.N.toNat, .slice (some ⟨b1138, 0, none⟩) a0.N.toNat a0.N.toNat, .slice none 0 0, .int .i64 0, .int .i64 0]) [.slice A1178 y974.length c1179, .slice (some ⟨b1181, 0, none⟩) a0.N.toNat a0.N.toNat, .slice (some ⟨b1174, 0, none⟩) a0.N.toNat a0.N.toNat, .slice (some ⟨b1138, 0, none⟩) a0.N.toNat a0.N.toNat, .slice none 0 0, .int .i64 0, .int .i64 0] rfl (by kernel_rfl) rfl hI ?_)
            clear hI
            intro b1183 _ hI
            refine ⟨(hI.pick [0] (by decide) rfl), ?_⟩
            refine held_batch (n := 0) [] [(14, .p)] [(7, .pointer (some ⟨b1183, 0, none⟩))] [] [true, true, true, true, true, true, true, true, true, true, true, true, true, true, true] (by kernel_rfl) (fun w hS => trivial) (hI.pick [0] (by decide) rfl) trivial (by kernel_rfl) (by kernel_rfl) (by kernel_rfl) ?_
            refine held_done (by kernel_rfl) ?_
            replace hI := hI.renum 1 rfl
            replace hI := hI.renum 2 rfl
            replace hI := hI.renum 4 rfl
            replace hI := hI.recell 5 [.slice A1178 y974.length c1179, .slice (some ⟨b1181, 0, none⟩) ((List.replicate a0.N.toNat (default : Int)).length) a0.N.toNat, .slice (some ⟨b1174, 0, none⟩) ((List.replicate a0.N.toNat (default : Int)).length) a0.N.toNat, .slice (some ⟨b1138, 0, none⟩) ((List.replicate a0.N.toNat (default : Int)).length) a0.N.toNat, .slice none 0 0, .int .i64 0, .int .i64 0] (by first | rfl | simp only [List.length_set, List.length_replicate, List.length_nil]) rfl
            exact hJ238 y974 _ _ ⟨_, b1183, A1178, c1179, (some ⟨b1181, 0, none⟩), a0.N.toNat, (some ⟨b1174, 0, none⟩), a0.N.toNat, (some ⟨b1138, 0, none⟩), a0.N.toNat, at_slots _ (by kernel_rfl), hI.pick [0, 5, 3, 4, 2, 1] (by decide) rfl⟩ H
          · refine (e_make (tInt .i64) (default : Int) 43 3 _ _ _ (.int .i64 0) a0.N rfl rfl rfl rfl rfl rfl (fun _ => rfl) (by kernel_rfl) (by kernel_rfl) g978 hI ?_)
            clear hI
            intro b1184 _ hI
            refine ⟨(hI.pick [0] (by decide) rfl), ?_⟩
            refine held_one (n := 3) 2 _ rfl (by kernel_rfl) (by kernel_rfl) (e_callf _ _ _ 32 #[] #[] #[.agg #[.int .i64 a0.N, .slice A0z0 a0.Edges.length c0z0], .int .i64 a1] #[.agg #[.int .i64 a0.N, .slice A0z0 a0.Edges.length c0z0], .int .i64 a1] rfl (by kernel_rfl) (by kernel_rfl) (by kernel_rfl) (enter32 _) (graph_rows_calls a0 A0z0 c0z0 a1 (memOf _) _ (Inv.start _) (hI.rd hr0z0) hl0z0 _ hy975) ?_)
            rintro _ _ ⟨A1187, c1188, rfl, hI'⟩
            replace hI := hI.call0 hI'
            clear hI'
            refine ⟨_, rfl, ?_⟩
            refine ⟨(hI.pick [0] (by decide) rfl), ?_⟩
            refine held_batch (n := 2) [] [(12, .p)] [(26, .agg #[.slice A1187 y974.length c1188, .slice (some ⟨b1184, 0, none⟩) a0.N.toNat a0.N.toNat, .slice (some ⟨b1174, 0, none⟩) a0.N.toNat a0.N.toNat, .slice (some ⟨b1138, 0, none⟩) a0.N.toNat a0.N.toNat, .slice none 0 0, .int .i64 0, .int .i64 0])] [] [true, true, true, true, true, true, true, true, true, true, true, true, true, false, false] (by kernel_rfl) (fun w hS => trivial) (hI.pick [0] (by decide) rfl) trivial (by kernel_rfl) (by kernel_rfl) (by kernel_rfl) ?_
            refine held_one (n := 1) 13 _ rfl (by kernel_rfl) (by kernel_rfl) (e_box 65 _ (.agg #[.slice A1187 y974.length c1188, .slice (some ⟨b1184, 0, none⟩) a0.N.toNat a0.N.toNat, .slice (some ⟨b1174, 0, none⟩) a0.N.toNat a0.N.toNat, .slice (some ⟨b1138, 0, none⟩) a0.N.toNat a0.N.toNat, .slice none 0 0, .int .i64 0, .int .i64 0]) [.slice A1187 y974.length c1188, .slice (some ⟨b1184, 0, none⟩) a0.N.toNat a0.N.toNat, .slice (some ⟨b1174, 0, none⟩) a0.N.toNat a0.N.toNat, .slice (some ⟨b1138, 0, none⟩) a0.N.toNat a0.N.toNat, .slice none 0 0, .int .i64 0, .int .i64 0] rfl (by kernel_rfl) rfl hI ?_)
            clear hI
            intro b1190 _ hI
            refine ⟨(hI.pick [0] (by decide) rfl), ?_⟩
            refine held_batch (n := 0) [] [(14, .p)] [(7, .pointer (some ⟨b1190, 0, none⟩))] [] [true, true, true, true, true, true, true, true, true, true, true, true, true, true, true] (by kernel_rfl) (fun w hS => trivial) (hI.pick [0] (by decide) rfl) trivial (by kernel_rfl) (by kernel_rfl) (by kernel_rfl) ?_
            refine held_done (by kernel_rfl) ?_
            replace hI := hI.renum 1 rfl
            replace hI := hI.renum 2 rfl
            replace hI := hI.renum 3 rfl
            replace hI := hI.recell 5 [.slice A1187 y974.length c1188, .slice (some ⟨b1184, 0, none⟩) ((List.replicate a0.N.toNat (default : Int)).length) a0.N.toNat, .slice (some ⟨b1174, 0, none⟩) ((List.replicate a0.N.toNat (default : Int)).length) a0.N.toNat, .slice (some ⟨b1138, 0, none⟩) ((List.replicate a0.N.toNat (default : Int)).length) a0.N.toNat, .slice none 0 0, .int .i64 0, .int .i64 0] (by first | rfl | simp only [List.length_set, List.length_replicate, List.length_nil]) rfl
            exact hJ238 y974 _ _ ⟨_, b1190, A1187, c1188, (some ⟨b1184, 0, none⟩), a0.N.toNat, (some ⟨b1174, 0, none⟩), a0.N.toNat, (some ⟨b1138, 0, none⟩), a0.N.toNat, at_slots _ (by kernel_rfl), hI.pick [0, 5, 4, 3, 2, 1] (by decide) rfl⟩ H

/-! ### assizeref06.Closure -/
theorem enter15 (a : Array Value) : Sem.pureRun Tryd.prog (callFunc 15 a) = some (.enter 15 a) := by kernel_rfl
theorem assizeref06zClosure_calls (a0 : Graph) (A0z0 : Option Addr) (c0z0 : Nat) (a1 : Int) (M : Mem) (w : World) (hI : Inv M w []) (hr0z0 : rdS kEdge M.blk A0z0 a0.Edges) (hl0z0 : a0.Edges.length ≤ c0z0) (r : (List (List Bool)) × Int) (H : assizeref06zClosure a0 a1 = some r) :
    Calls Tryd.prog 15 #[.agg #[.int .i64 a0.N, .slice A0z0 a0.Edges.length c0z0], .int .i64 a1] w fun e w' => ∃ (A6350 : Option Addr) (c6351 : Nat), e = .returned (.tuple #[.slice A6350 r.1.length c6351, .int .i64 r.2]) ∧ Inv M w' [.row (tSlice 4 tBool) 27 A6350 r.1.length c6351 r.1] := by
  refine calls_go (updL (fun _ => undef) [(0, .agg #[.int .i64 a0.N, .slice A0z0 a0.Edges.length c0z0]), (1, .int .i64 a1)]) Tryd.func15 rfl (by kernel_rfl) ?_
  intro cs
  unfold assizeref06zClosure at H
  refine go_seq ?_
  refine r_in ?_
  refine o_eff 0 _ rfl (by kernel_rfl) ?_
  refine e_box 24 _ (.agg #[.int .i64 a0.N, .slice A0z0 a0.Edges.length c0z0]) [.int .i64 a0.N, .slice A0z0 a0.Edges.length c0z0] rfl (by kernel_rfl) rfl hI ?_
  clear hI
  intro b2 _ hI
  refine o_batch 1 [] [.p, .p] [(4, .slice none 0 0), (5, .int .i64 0)] [] trivial trivial (by kernel_rfl) (by kernel_rfl) (by kernel_rfl) ?_
  refine r_out (by kernel_rfl) ?_
  refine go_seq ?_
  refine go_seq ?_
  refine r_in ?_
  refine o_batch 0 [(b2, 0, [.int .i64 a0.N, .slice A0z0 a0.Edges.length c0z0])] [.l 0 0] [(10, .agg #[.int .i64 a0.N, .slice A0z0 a0.Edges.length c0z0])] [] ⟨(hI.grp 0 rfl), trivial⟩ trivial (by kernel_rfl) (by kernel_rfl) (by kernel_rfl) ?_
  replace H := bind_some H
  obtain ⟨y8, hy9, H⟩ := H
  refine o_eff 1 _ rfl (by kernel_rfl) ?_
  refine e_callf _ _ _ 19 #[] #[] #[.agg #[.int .i64 a0.N, .slice A0z0 a0.Edges.length c0z0]] #[.agg #[.int .i64 a0.N, .slice A0z0 a0.Edges.length c0z0]] rfl (by kernel_rfl) (by kernel_rfl) (by kernel_rfl) (enter19 _) (assizeref06zCheck_calls a0 A0z0 c0z0 (memOf _) _ (Inv.start _) (hI.rd hr0z0) hl0z0 _ hy9) ?_
  rintro _ _ ⟨rfl, hI'⟩
  replace hI := hI.call0 hI'
  clear hI'
  refine ⟨_, rfl, ?_⟩
  refine o_batch 2 [] [.p] [(12, .bool (y8 != 0))] [] trivial trivial (by kernel_rfl) (by kernel_rfl) (by kernel_rfl) ?_
  refine r_out (by kernel_rfl) ?_
  replace H := cond_some H
  rcases H with ⟨hc10, H⟩ | ⟨hc10, H⟩
  · refine go_then' (t := (y8 != 0)) (by kernel_rfl) hc10 ?_
    refine go_seq ?_
    refine r_in ?_
    refine o_batch 0 [] [.p, .p] [(4, .slice none 0 0), (5, .int .i64 60)] [] trivial trivial (by kernel_rfl) (by kernel_rfl) (by kernel_rfl) ?_
    refine r_out (by kernel_rfl) ?_
    replace H := Option.some.inj H
    subst H
    exact go_return (.tuple #[.slice none 0 0, .int .i64 60]) Tryd.func15 (by kernel_rfl) ⟨none, 0, rfl, (hI.nilrow (tSlice 4 tBool) 27).pick [1] (by decide) rfl⟩
  · refine go_else' (t := (y8 != 0)) (by kernel_rfl) hc10 ?_
    refine go_skip ?_
    refine go_seq ?_
    refine r_in ?_
    refine o_batch 0 [(b2, 0, [.int .i64 a0.N, .slice A0z0 a0.Edges.length c0z0])] [.l 0 0, .p] [(13, .agg #[.int .i64 a0.N, .slice A0z0 a0.Edges.length c0z0]), (14, .int .i64 a1)] [] ⟨(hI.grp 0 rfl), trivial⟩ trivial (by kernel_rfl) (by kernel_rfl) (by kernel_rfl) ?_
    replace H := bind_some H
    obtain ⟨y15, hy16, H⟩ := H
    refine o_eff 2 _ rfl (by kernel_rfl) ?_
    refine e_callf _ _ _ 33 #[] #[] #[.agg #[.int .i64 a0.N, .slice A0z0 a0.Edges.length c0z0], .int .i64 a1] #[.agg #[.int .i64 a0.N, .slice A0z0 a0.Edges.length c0z0], .int .i64 a1] rfl (by kernel_rfl) (by kernel_rfl) (by kernel_rfl) (enter33 _) (assizeref06zSteps_calls a0 A0z0 c0z0 a1 (memOf _) _ (Inv.start _) (hI.rd hr0z0) hl0z0 _ hy16) ?_
    rintro _ _ ⟨A17, c18, rfl, hI'⟩
    replace hI := hI.call0 hI'
    clear hI'
    refine ⟨_, rfl, ?_⟩
    refine o_batch 3 [] [.p] [(6, .slice A17 y15.length c18)] [] trivial trivial (by kernel_rfl) (by kernel_rfl) (by kernel_rfl) ?_
    refine r_out (by kernel_rfl) ?_
    refine go_seq ?_
    refine go_seq ?_
    refine r_in ?_
    refine o_batch 0 [] [.p] [(7, .int .i64 0)] [] trivial trivial (by kernel_rfl) (by kernel_rfl) (by kernel_rfl) ?_
    refine r_out (by kernel_rfl) ?_
    refine go_block ?_
    refine go_iter (assizeref06zClosure.s1 a0) (fun (l3882, x3885) f w => ∃ (j : Nat → Value) (A3883 : Option Addr) (c3884 : Nat), f = updL j [(2, .pointer (some ⟨b2, 0, none⟩)), (6, .slice A3883 l3882.length c3884), (7, .int .i64 x3885)] ∧ Inv M w [.blk b2 24 [.int .i64 a0.N, .slice A0z0 a0.Edges.length c0z0], .row (tSlice 4 tBool) 27 A3883 l3882.length c3884 l3882]) H ⟨_, A17, c18, at_slots _ (by kernel_rfl), hI⟩ ?_
    clear H hI
    rintro ⟨l3882, x3885⟩ _ _ o1 H ⟨_, A3883, c3884, rfl, hI⟩ hin1 hout1
    refine go_seq ?_
    refine go_seq ?_
    refine r_in ?_
    refine o_batch 0 [(b2, 0, [.int .i64 a0.N, .slice A0z0 a0.Edges.length c0z0])] [.p, .p, .l 0 0, .p] [(16, .int .i64 x3885), (17, .pointer (some ⟨b2, 0, none⟩)), (18, .int .i64 a0.N), (19, .bool (decide (x3885 < a0.N)))] [] ⟨(hI.grp 0 rfl), trivial⟩ trivial (by kernel_rfl) (by kernel_rfl) (by kernel_rfl) ?_
    refine r_out (by kernel_rfl) ?_
    replace H := cond_some H
    rcases H with ⟨hc3887, H⟩ | ⟨hc3887, H⟩
    · refine go_then' (t := decide (x3885 < a0.N)) (by kernel_rfl) hc3887 ?_
      refine go_skip ?_
      refine go_seq ?_
      refine go_block ?_
      refine go_seq ?_
      refine r_in ?_
      refine o_batch 0 [] [.p] [(8, .int .i64 0)] [] trivial trivial (by kernel_rfl) (by kernel_rfl) (by kernel_rfl) ?_
      refine r_out (by kernel_rfl) ?_
      refine go_block ?_
      refine go_iter (assizeref06zClosure.s2 a0 x3885) (fun (l5637, x5640) f w => ∃ (j : Nat → Value) (A5638 : Option Addr) (c5639 : Nat), f = updL j [(2, .pointer (some ⟨b2, 0, none⟩)), (6, .slice A5638 l5637.length c5639), (7, .int .i64 x3885), (8, .int .i64 x5640)] ∧ Inv M w [.blk b2 24 [.int .i64 a0.N, .slice A0z0 a0.Edges.length c0z0], .row (tSlice 4 tBool) 27 A5638 l5637.length c5639 l5637]) H ⟨_, A3883, c3884, at_slots _ (by kernel_rfl), hI⟩ ?_
      clear H hI
      rintro ⟨l5637, x5640⟩ _ _ o2 H ⟨_, A5638, c5639, rfl, hI⟩ hin2 hout2
      refine go_seq ?_
      refine go_seq ?_
      refine r_in ?_
      refine o_batch 0 [(b2, 0, [.int .i64 a0.N, .slice A0z0 a0.Edges.length c0z0])] [.p, .p, .l 0 0, .p] [(22, .int .i64 x5640), (23, .pointer (some ⟨b2, 0, none⟩)), (24, .int .i64 a0.N), (25, .bool (decide (x5640 < a0.N)))] [] ⟨(hI.grp 0 rfl), trivial⟩ trivial (by kernel_rfl) (by kernel_rfl) (by kernel_rfl) ?_
      refine r_out (by kernel_rfl) ?_
      replace H := cond_some H
      rcases H with ⟨hc5642, H⟩ | ⟨hc5642, H⟩
      · refine go_then' (t := decide (x5640 < a0.N)) (by kernel_rfl) hc5642 ?_
        refine go_skip ?_
        refine go_seq ?_
        refine go_block ?_
        refine go_seq ?_
        refine r_in ?_
        refine o_batch 0 [] [.p] [(9, .int .i64 0)] [] trivial trivial (by kernel_rfl) (by kernel_rfl) (by kernel_rfl) ?_
        refine r_out (by kernel_rfl) ?_
        refine go_block ?_
        refine go_iter (assizeref06zClosure.s3 a0 x3885 x5640) (fun (l6197, x6200) f w => ∃ (j : Nat → Value) (A6198 : Option Addr) (c6199 : Nat), f = updL j [(2, .pointer (some ⟨b2, 0, none⟩)), (6, .slice A6198 l6197.length c6199), (7, .int .i64 x3885), (8, .int .i64 x5640), (9, .int .i64 x6200)] ∧ Inv M w [.blk b2 24 [.int .i64 a0.N, .slice A0z0 a0.Edges.length c0z0], .row (tSlice 4 tBool) 27 A6198 l6197.length c6199 l6197]) H ⟨_, A5638, c5639, at_slots _ (by kernel_rfl), hI⟩ ?_
        clear H hI
        rintro ⟨l6197, x6200⟩ _ _ o3 H ⟨_, A6198, c6199, rfl, hI⟩ hin3 hout3
        refine go_seq ?_
        refine go_seq ?_
        refine r_in ?_
        refine o_batch 0 [(b2, 0, [.int .i64 a0.N, .slice A0z0 a0.Edges.length c0z0])] [.p, .p, .l 0 0, .p] [(28, .int .i64 x6200), (29, .pointer (some ⟨b2, 0, none⟩)), (30, .int .i64 a0.N), (31, .bool (decide (x6200 < a0.N)))] [] ⟨(hI.grp 0 rfl), trivial⟩ trivial (by kernel_rfl) (by kernel_rfl) (by kernel_rfl) ?_
        refine r_out (by kernel_rfl) ?_
        replace H := cond_some H
        rcases H with ⟨hc6202, H⟩ | ⟨hc6202, H⟩
        · refine go_then' (t := decide (x6200 < a0.N)) (by kernel_rfl) hc6202 ?_
          refine go_skip ?_
          refine go_seq ?_
          refine go_block_join (o := o3) (fun l6282 f w => ∃ (j : Nat → Value) (A6283 : Option Addr) (c6284 : Nat), f = updL j [(2, .pointer (some ⟨b2, 0, none⟩)), (6, .slice A6283 l6282.length c6284), (7, .int .i64 x3885), (8, .int .i64 x5640), (9, .int .i64 x6200)] ∧ Inv M w [.blk b2 24 [.int .i64 a0.N, .slice A0z0 a0.Edges.length c0z0], .row (tSlice 4 tBool) 27 A6283 l6282.length c6284 l6282]) (fun l6282 => assizeref06zClosure.j4 x6200 l6282) ?_ (fun hJ6285 => ?_)
          · clear H hI
            rintro l6282 _ _ ⟨_, A6283, c6284, rfl, hI⟩ H
            refine r_in ?_
            refine o_batch 0 [] [.p, .p, .p] [(32, .int .i64 x6200), (33, .int .i64 (w64 (x6200 + 1))), (9, .int .i64 (w64 (x6200 + 1)))] [] trivial trivial (by kernel_rfl) (by kernel_rfl) (by kernel_rfl) ?_
            refine r_out (by kernel_rfl) ?_
            exact hin3 _ (Option.some.inj H).symm _ _ ⟨_, A6283, c6284, at_slots _ (by kernel_rfl), hI⟩
          · refine go_seq_join (o := o3) (fun b6310 f w => ∃ (j : Nat → Value), f = updL j [(2, .pointer (some ⟨b2, 0, none⟩)), (6, .slice A6198 l6197.length c6199), (7, .int .i64 x3885), (8, .int .i64 x5640), (9, .int .i64 x6200), (49, .bool b6310)] ∧ Inv M w [.blk b2 24 [.int .i64 a0.N, .slice A0z0 a0.Edges.length c0z0], .row (tSlice 4 tBool) 27 A6198 l6197.length c6199 l6197]) (fun b6310 => assizeref06zClosure.j5 x5640 l6197 x6200 b6310) ?_ (fun hJ6311 => ?_)
            · clear H hI
              rintro b6310 _ _ ⟨_, rfl, hI⟩ H
              replace H := cond_some H
              rcases H with ⟨hc6312, H⟩ | ⟨hc6312, H⟩
              · refine go_then' (t := b6310) (by kernel_rfl) hc6312 ?_
                refine r_in ?_
                replace H := must_some H
                obtain ⟨g6313, H⟩ := H
                obtain ⟨b6314, rfl⟩ := hI.rowAt 1 rfl g6313
                obtain ⟨cs6317, hk6316, hg6315⟩ := rdS.look (hI.row 1 rfl) (hI.rowlen 1 rfl) g6313
                obtain ⟨A6318, c6319, rfl, hl6321, hr6320⟩ := hk6316
                replace H := must_some H
                obtain ⟨g6322, H⟩ := H
                obtain ⟨b6323, q6324, rfl, _⟩ := rdS.fopen hr6320 rfl g6322
                refine o_batch 0 [(b6314, 0 + x5640.toNat * 1, [.slice (some ⟨b6323, q6324, none⟩) ((idx l6197 x5640).length) c6319])] [.p, .p, .x, .l 0 0, .p, .x] [(50, .slice (some ⟨b6314, 0, none⟩) l6197.length c6199), (51, .int .i64 x5640), (52, .pointer (some ⟨b6314, 0 + x5640.toNat * 1, none⟩)), (53, .slice (some ⟨b6323, q6324, none⟩) ((idx l6197 x5640).length) c6319), (54, .int .i64 x6200), (55, .pointer (some ⟨b6323, q6324 + x6200.toNat * 1, none⟩))] [(x5640, l6197.length), (x6200, (idx l6197 x5640).length)] ⟨hg6315.ok, trivial⟩ ⟨g6313, g6322, trivial⟩ (by kernel_rfl) (by kernel_rfl) (by kernel_rfl) ?_
                refine o_eff 6 _ rfl (by kernel_rfl) ?_
                refine e_put2 4 _ _ 1 b6314 27 4 l6197.length c6199 l6197 x5640 b6323 q6324 ((idx l6197 x5640).length) c6319 true x6200 0 (.bool true) rfl (by kernel_rfl) (by kernel_rfl) (by kernel_rfl) (by kernel_rfl) hI rfl g6313 (Lies.ok hg6315) g6322 (by kernel_rfl) (by kernel_rfl) ?_
                clear hI
                intro _ hI
                refine r_out (by kernel_rfl) ?_
                refine go_inBlock ?_
                refine go_is 6 (.slice (some ⟨b6314, 0, none⟩) l6197.length c6199) (.slice (some ⟨b6314, 0, none⟩) ((l6197.set x5640.toNat ((idx l6197 x5640).set x6200.toNat true)).length) c6199) (by kernel_rfl) (by first | rfl | simp only [List.length_set, List.length_replicate, List.length_nil]) ?_
                replace hI := hI.renum 1 rfl
                exact hJ6285 (l6197.set x5640.toNat ((idx l6197 x5640).set x6200.toNat true)) _ _ ⟨_, (some ⟨b6314, 0, none⟩), c6199, at_slots _ (by kernel_rfl), hI⟩ H
              · refine go_else' (t := b6310) (by kernel_rfl) hc6312 ?_
                refine go_skip ?_
                refine go_inBlock ?_
                exact hJ6285 l6197 _ _ ⟨_, A6198, c6199, at_slots _ (by kernel_rfl), hI⟩ H
            · refine r_in ?_
              replace H := must_some H
              obtain ⟨g6325, H⟩ := H
              obtain ⟨b6326, rfl⟩ := hI.rowAt 1 rfl g6325
              obtain ⟨cs6329, hk6328, hg6327⟩ := rdS.look (hI.row 1 rfl) (hI.rowlen 1 rfl) g6325
              obtain ⟨A6330, c6331, rfl, hl6333, hr6332⟩ := hk6328
              replace H := must_some H
              obtain ⟨g6334, H⟩ := H
              obtain ⟨b6335, q6336, rfl, _⟩ := rdS.fopen hr6332 rfl g6334
              replace H := cond_some H
              rcases H with ⟨hc6337, H⟩ | ⟨hc6337, H⟩
              · replace H := must_some H
                obtain ⟨g6338, H⟩ := H
                obtain ⟨cs6341, hk6340, hg6339⟩ := rdS.look (hI.row 1 rfl) (hI.rowlen 1 rfl) g6338
                obtain ⟨A6342, c6343, rfl, hl6345, hr6344⟩ := hk6340
                replace H := must_some H
                obtain ⟨g6346, H⟩ := H
                obtain ⟨b6347, q6348, rfl, _⟩ := rdS.fopen hr6344 rfl g6346
                refine o_batch 0 [(b6326, 0 + x5640.toNat * 1, [.slice (some ⟨b6335, q6336, none⟩) ((idx l6197 x5640).length) c6331]), (b6335, q6336 + x3885.toNat * 1, [.bool (idx (idx l6197 x5640) x3885)]), (b6326, 0 + x3885.toNat * 1, [.slice (some ⟨b6347, q6348, none⟩) ((idx l6197 x3885).length) c6343]), (b6347, q6348 + x6200.toNat * 1, [.bool (idx (idx l6197 x3885) x6200)])] [.p, .p, .x, .l 0 0, .p, .x, .l 1 0, .c true, .p, .p, .x, .l 2 0, .p, .x, .l 3 0, .p] [(34, .slice (some ⟨b6326, 0, none⟩) l6197.length c6199), (35, .int .i64 x5640), (36, .pointer (some ⟨b6326, 0 + x5640.toNat * 1, none⟩)), (37, .slice (some ⟨b6335, q6336, none⟩) ((idx l6197 x5640).length) c6331), (38, .int .i64 x3885), (39, .pointer (some ⟨b6335, q6336 + x3885.toNat * 1, none⟩)), (40, .bool (idx (idx l6197 x5640) x3885)), (41, .bool true), (42, .slice (some ⟨b6326, 0, none⟩) l6197.length c6199), (43, .int .i64 x3885), (44, .pointer (some ⟨b6326, 0 + x3885.toNat * 1, none⟩)), (45, .slice (some ⟨b6347, q6348, none⟩) ((idx l6197 x3885).length) c6343), (46, .int .i64 x6200), (47, .pointer (some ⟨b6347, q6348 + x6200.toNat * 1, none⟩)), (48, .bool (idx (idx l6197 x3885) x6200)), (49, .bool (idx (idx l6197 x3885) x6200))] [(x5640, l6197.length), (x3885, (idx l6197 x5640).length), ((bif (idx (idx l6197 x5640) x3885) == true then 0 else -1), 1), (x3885, l6197.length), (x6200, (idx l6197 x3885).length)] ⟨hg6327.ok, (rdS.flook hr6332 rfl g6334).ok, hg6339.ok, (rdS.flook hr6344 rfl g6346).ok, trivial⟩ ⟨g6325, g6334, (bndEq hc6337), g6338, g6346, trivial⟩ (by kernel_rfl) (by kernel_rfl) (by kernel_rfl) ?_
                refine r_out (by kernel_rfl) ?_
                exact hJ6311 (idx (idx l6197 x3885) x6200) _ _ ⟨_, at_slots _ (by kernel_rfl), hI⟩ H
              · refine o_batch 0 [(b6326, 0 + x5640.toNat * 1, [.slice (some ⟨b6335, q6336, none⟩) ((idx l6197 x5640).length) c6331]), (b6335, q6336 + x3885.toNat * 1, [.bool (idx (idx l6197 x5640) x3885)])] [.p, .p, .x, .l 0 0, .p, .x, .l 1 0, .c false, .p, .p, .p, .p, .p, .p, .p, .p] [(34, .slice (some ⟨b6326, 0, none⟩) l6197.length c6199), (35, .int .i64 x5640), (36, .pointer (some ⟨b6326, 0 + x5640.toNat * 1, none⟩)), (37, .slice (some ⟨b6335, q6336, none⟩) ((idx l6197 x5640).length) c6331), (38, .int .i64 x3885), (39, .pointer (some ⟨b6335, q6336 + x3885.toNat * 1, none⟩)), (40, .bool (idx (idx l6197 x5640) x3885)), (41, .bool false), (42, undef), (43, undef), (44, undef), (45, undef), (46, undef), (47, undef), (48, undef), (49, .bool false)] [(x5640, l6197.length), (x3885, (idx l6197 x5640).length), ((bif (idx (idx l6197 x5640) x3885) == false then 0 else -1), 1)] ⟨hg6327.ok, (rdS.flook hr6332 rfl g6334).ok, trivial⟩ ⟨g6325, g6334, (bndEq hc6337), trivial⟩ (by kernel_rfl) (by kernel_rfl) (by kernel_rfl) ?_
                refine r_out (by kernel_rfl) ?_
                exact hJ6311 false _ _ ⟨_, at_slots _ (by kernel_rfl), hI⟩ H
        · refine go_else' (t := decide (x6200 < a0.N)) (by kernel_rfl) hc6202 ?_
          refine go_exit rfl ?_
          refine go_inBlock ?_
          refine r_in ?_
          refine o_batch 0 [] [.p, .p, .p] [(26, .int .i64 x5640), (27, .int .i64 (w64 (x5640 + 1))), (8, .int .i64 (w64 (x5640 + 1)))] [] trivial trivial (by kernel_rfl) (by kernel_rfl) (by kernel_rfl) ?_
          refine r_out (by kernel_rfl) ?_
          replace H := out_some H
          obtain ⟨_, H, he3⟩ := H
          have he := (hout3 _ he3).symm
          subst he
          exact hin2 _ (Option.some.inj H).symm _ _ ⟨_, A6198, c6199, at_slots _ (by kernel_rfl), hI⟩
      · refine go_else' (t := decide (x5640 < a0.N)) (by kernel_rfl) hc5642 ?_
        refine go_exit rfl ?_
        refine go_inBlock ?_
        refine r_in ?_
        refine o_batch 0 [] [.p, .p, .p] [(20, .int .i64 x3885), (21, .int .i64 (w64 (x3885 + 1))), (7, .int .i64 (w64 (x3885 + 1)))] [] trivial trivial (by kernel_rfl) (by kernel_rfl) (by kernel_rfl) ?_
        refine r_out (by kernel_rfl) ?_
        replace H := out_some H
        obtain ⟨_, H, he2⟩ := H
        have he := (hout2 _ he2).symm
        subst he
        exact hin1 _ (Option.some.inj H).symm _ _ ⟨_, A5638, c5639, at_slots _ (by kernel_rfl), hI⟩
    · refine go_else' (t := decide (x3885 < a0.N)) (by kernel_rfl) hc3887 ?_
      refine go_exit rfl ?_
      refine go_seq ?_
      refine r_in ?_
      refine o_batch 0 [] [.p, .p, .p] [(56, .slice A3883 l3882.length c3884), (4, .slice A3883 l3882.length c3884), (5, .int .i64 0)] [] trivial trivial (by kernel_rfl) (by kernel_rfl) (by kernel_rfl) ?_
      refine r_out (by kernel_rfl) ?_
      replace H := out_some H
      obtain ⟨_, H, he1⟩ := H
      have he := (hout1 _ he1).symm
      subst he
      replace H := Option.some.inj H
      subst H
      exact go_return (.tuple #[.slice A3883 l3882.length c3884, .int .i64 0]) Tryd.func15 (by kernel_rfl) ⟨A3883, c3884, rfl, hI.pick [1] (by decide) rfl⟩

/-! ### assizeref06.Parts -/
theorem enter24 (a : Array Value) : Sem.pureRun Tryd.prog (callFunc 24 a) = some (.enter 24 a) := by kernel_rfl
theorem assizeref06zParts_calls (a0 : Graph) (A0z0 : Option Addr) (c0z0 : Nat) (a1 : Int) (M : Mem) (w : World) (hI : Inv M w []) (hr0z0 : rdS kEdge M.blk A0z0 a0.Edges) (hl0z0 : a0.Edges.length ≤ c0z0) (r : List Int × Int) (H : assizeref06zParts a0 a1 = some r) :
    Calls Tryd.prog 24 #[.agg #[.int .i64 a0.N, .slice A0z0 a0.Edges.length c0z0], .int .i64 a1] w fun e w' => ∃ (A2031 : Option Addr) (c2032 : Nat), e = .returned (.tuple #[.slice A2031 r.1.length c2032, .int .i64 r.2]) ∧ Inv M w' [.row (tInt .i64) 3 A2031 r.1.length c2032 r.1] := by
  refine calls_go (updL (fun _ => undef) [(0, .agg #[.int .i64 a0.N, .slice A0z0 a0.Edges.length c0z0]), (1, .int .i64 a1)]) Tryd.func24 rfl (by kernel_rfl) ?_
  intro cs
  unfold assizeref06zParts at H
  refine go_seq ?_
  refine r_in ?_
  refine o_eff 0 _ rfl (by kernel_rfl) ?_
  refine e_box 24 _ (.agg #[.int .i64 a0.N, .slice A0z0 a0.Edges.length c0z0]) [.int .i64 a0.N, .slice A0z0 a0.Edges.length c0z0] rfl (by kernel_rfl) rfl hI ?_
  clear hI
  intro b2 _ hI
  refine o_batch 1 [] [.p, .p] [(4, .slice none 0 0), (5, .int .i64 0)] [] trivial trivial (by kernel_rfl) (by kernel_rfl) (by kernel_rfl) ?_
  refine r_out (by kernel_rfl) ?_
  refine go_seq ?_
  refine r_in ?_
  refine o_batch 0 [(b2, 0, [.int .i64 a0.N, .slice A0z0 a0.Edges.length c0z0])] [.l 0 0, .p] [(13, .agg #[.int .i64 a0.N, .slice A0z0 a0.Edges.length c0z0]), (14, .int .i64 a1)] [] ⟨(hI.grp 0 rfl), trivial⟩ trivial (by kernel_rfl) (by kernel_rfl) (by kernel_rfl) ?_
  replace H := bind_some H
  obtain ⟨y7, hy8, H⟩ := H
  refine o_eff 2 _ rfl (by kernel_rfl) ?_
  refine e_callf _ _ _ 15 #[] #[] #[.agg #[.int .i64 a0.N, .slice A0z0 a0.Edges.length c0z0], .int .i64 a1] #[.agg #[.int .i64 a0.N, .slice A0z0 a0.Edges.length c0z0], .int .i64 a1] rfl (by kernel_rfl) (by kernel_rfl) (by kernel_rfl) (enter15 _) (assizeref06zClosure_calls a0 A0z0 c0z0 a1 (memOf _) _ (Inv.start _) (hI.rd hr0z0) hl0z0 _ hy8) ?_
  rintro _ _ ⟨A9, c10, rfl, hI'⟩
  replace hI := hI.call0 hI'
  clear hI'
  refine ⟨_, rfl, ?_⟩
  refine o_batch 3 [] [.p, .p, .p, .p, .p] [(12, .tuple #[.slice A9 y7.1.length c10, .int .i64 y7.2]), (16, .slice A9 y7.1.length c10), (17, .int .i64 y7.2), (6, .slice A9 y7.1.length c10), (7, .int .i64 y7.2)] [] trivial trivial (by kernel_rfl) (by kernel_rfl) (by kernel_rfl) ?_
  refine r_out (by kernel_rfl) ?_
  refine go_seq ?_
  refine go_seq ?_
  refine r_in ?_
  refine o_batch 0 [] [.p, .p] [(18, .int .i64 y7.2), (19, .bool (y7.2 != 0))] [] trivial trivial (by kernel_rfl) (by kernel_rfl) (by kernel_rfl) ?_
  refine r_out (by kernel_rfl) ?_
  replace H := cond_some H
  rcases H with ⟨hc12, H⟩ | ⟨hc12, H⟩
  · refine go_then' (t := (y7.2 != 0)) (by kernel_rfl) hc12 ?_
    refine go_seq ?_
    refine r_in ?_
    refine o_batch 0 [] [.p, .p, .p] [(20, .int .i64 y7.2), (4, .slice none 0 0), (5, .int .i64 y7.2)] [] trivial trivial (by kernel_rfl) (by kernel_rfl) (by kernel_rfl) ?_
    refine r_out (by kernel_rfl) ?_
    replace H := Option.some.inj H
    subst H
    exact go_return (.tuple #[.slice none 0 0, .int .i64 y7.2]) Tryd.func24 (by kernel_rfl) ⟨none, 0, rfl, (hI.nilrow (tInt .i64) 3).pick [2] (by decide) rfl⟩
  · refine go_else' (t := (y7.2 != 0)) (by kernel_rfl) hc12 ?_
    refine go_skip ?_
    refine go_seq ?_
    refine r_in ?_
    refine o_batch 0 [(b2, 0, [.int .i64 a0.N, .slice A0z0 a0.Edges.length c0z0])] [.p, .l 0 0] [(21, .pointer (some ⟨b2, 0, none⟩)), (22, .int .i64 a0.N)] [] ⟨(hI.grp 0 rfl), trivial⟩ trivial (by kernel_rfl) (by kernel_rfl) (by kernel_rfl) ?_
    replace H := must_some H
    obtain ⟨g15, H⟩ := H
    refine o_eff 2 _ rfl (by kernel_rfl) ?_
    refine e_make (tInt .i64) (default : Int) 43 3 _ _ _ (.int .i64 0) a0.N rfl rfl rfl rfl rfl rfl (fun _ => rfl) (by kernel_rfl) (by kernel_rfl) g15 hI ?_
    clear hI
    intro b16 _ hI
    refine o_batch 3 [] [.p] [(8, .slice (some ⟨b16, 0, none⟩) a0.N.toNat a0.N.toNat)] [] trivial trivial (by kernel_rfl) (by kernel_rfl) (by kernel_rfl) ?_
    refine r_out (by kernel_rfl) ?_
    refine go_seq ?_
    refine r_in ?_
    refine o_batch 0 [] [.p] [(9, .int .i64 0)] [] trivial trivial (by kernel_rfl) (by kernel_rfl) (by kernel_rfl) ?_
    refine r_out (by kernel_rfl) ?_
    refine go_seq ?_
    refine go_seq ?_
    refine r_in ?_
    refine o_batch 0 [] [.p] [(10, .int .i64 0)] [] trivial trivial (by kernel_rfl) (by kernel_rfl) (by kernel_rfl) ?_
    refine r_out (by kernel_rfl) ?_
    refine go_block ?_
    refine go_is 8 (.slice (some ⟨b16, 0, none⟩) a0.N.toNat a0.N.toNat) (.slice (some ⟨b16, 0, none⟩) ((List.replicate a0.N.toNat (default : Int)).length) a0.N.toNat) (by kernel_rfl) (by first | rfl | simp only [List.length_set, List.length_replicate, List.length_nil]) ?_
    replace hI := hI.renum 2 rfl
    refine go_iter (assizeref06zParts.s1 a0 y7) (fun (l1234, x1237, x1238) f w => ∃ (j : Nat → Value) (A1235 : Option Addr) (c1236 : Nat), f = updL j [(2, .pointer (some ⟨b2, 0, none⟩)), (6, .slice A9 y7.1.length c10), (8, .slice A1235 l1234.length c1236), (9, .int .i64 x1237), (10, .int .i64 x1238)] ∧ Inv M w [.blk b2 24 [.int .i64 a0.N, .slice A0z0 a0.Edges.length c0z0], .row (tSlice 4 tBool) 27 A9 y7.1.length c10 y7.1, .row (tInt .i64) 3 A1235 l1234.length c1236 l1234]) H ⟨_, (some ⟨b16, 0, none⟩), a0.N.toNat, at_slots _ (by kernel_rfl), hI⟩ ?_
    clear H hI
    rintro ⟨l1234, x1237, x1238⟩ _ _ o1 H ⟨_, A1235, c1236, rfl, hI⟩ hin1 hout1
    refine go_seq ?_
    refine go_seq ?_
    refine r_in ?_
    refine o_batch 0 [(b2, 0, [.int .i64 a0.N, .slice A0z0 a0.Edges.length c0z0])] [.p, .p, .l 0 0, .p] [(24, .int .i64 x1238), (25, .pointer (some ⟨b2, 0, none⟩)), (26, .int .i64 a0.N), (27, .bool (decide (x1238 < a0.N)))] [] ⟨(hI.grp 0 rfl), trivial⟩ trivial (by kernel_rfl) (by kernel_rfl) (by kernel_rfl) ?_
    refine r_out (by kernel_rfl) ?_
    replace H := cond_some H
    rcases H with ⟨hc1240, H⟩ | ⟨hc1240, H⟩
    · refine go_then' (t := decide (x1238 < a0.N)) (by kernel_rfl) hc1240 ?_
      refine go_skip ?_
      refine go_seq ?_
      refine go_block_join (o := o1) (fun (l1521, x1524) f w => ∃ (j : Nat → Value) (A1522 : Option Addr) (c1523 : Nat), f = updL j [(2, .pointer (some ⟨b2, 0, none⟩)), (6, .slice A9 y7.1.length c10), (8, .slice A1522 l1521.length c1523), (9, .int .i64 x1524), (10, .int .i64 x1238)] ∧ Inv M w [.blk b2 24 [.int .i64 a0.N, .slice A0z0 a0.Edges.length c0z0], .row (tSlice 4 tBool) 27 A9 y7.1.length c10 y7.1, .row (tInt .i64) 3 A1522 l1521.length c1523 l1521]) (fun (l1521, x1524) => assizeref06zParts.j2 x1238 l1521 x1524) ?_ (fun hJ1525 => ?_)
      · clear H hI
        rintro ⟨l1521, x1524⟩ _ _ ⟨_, A1522, c1523, rfl, hI⟩ H
        refine r_in ?_
        refine o_batch 0 [] [.p, .p, .p] [(28, .int .i64 x1238), (29, .int .i64 (w64 (x1238 + 1))), (10, .int .i64 (w64 (x1238 + 1)))] [] trivial trivial (by kernel_rfl) (by kernel_rfl) (by kernel_rfl) ?_
        refine r_out (by kernel_rfl) ?_
        exact hin1 _ (Option.some.inj H).symm _ _ ⟨_, A1522, c1523, at_slots _ (by kernel_rfl), hI⟩
      · refine go_seq ?_
        refine r_in ?_
        replace H := must_some H
        obtain ⟨g1528, H⟩ := H
        obtain ⟨b1529, rfl⟩ := hI.rowAt 2 rfl g1528
        refine o_batch 0 [] [.p, .p, .x] [(30, .slice (some ⟨b1529, 0, none⟩) l1234.length c1236), (31, .int .i64 x1238), (32, .pointer (some ⟨b1529, 0 + x1238.toNat * 1, none⟩))] [(x1238, l1234.length)] trivial ⟨g1528, trivial⟩ (by kernel_rfl) (by kernel_rfl) (by kernel_rfl) ?_
        refine o_eff 3 _ rfl (by kernel_rfl) ?_
        refine e_put 3 _ _ 2 b1529 3 l1234.length c1236 l1234 (-1) x1238 0 (.int .i64 (-1)) rfl (by kernel_rfl) (by kernel_rfl) (by kernel_rfl) (by kernel_rfl) hI rfl g1528 (by kernel_rfl) (by kernel_rfl) ?_
        clear hI
        intro _ hI
        refine r_out (by kernel_rfl) ?_
        refine go_seq ?_
        refine go_seq ?_
        refine r_in ?_
        refine o_batch 0 [] [.p] [(11, .int .i64 0)] [] trivial trivial (by kernel_rfl) (by kernel_rfl) (by kernel_rfl) ?_
        refine r_out (by kernel_rfl) ?_
        refine go_block ?_
        refine go_is 8 (.slice (some ⟨b1529, 0, none⟩) l1234.length c1236) (.slice (some ⟨b1529, 0, none⟩) ((l1234.set x1238.toNat (-1)).length) c1236) (by kernel_rfl) (by first | rfl | simp only [List.length_set, List.length_replicate, List.length_nil]) ?_
        replace hI := hI.renum 2 rfl
        refine go_iter (assizeref06zParts.s3 y7 x1237 x1238) (fun (l1888, x1891) f w => ∃ (j : Nat → Value) (A1889 : Option Addr) (c1890 : Nat), f = updL j [(2, .pointer (some ⟨b2, 0, none⟩)), (6, .slice A9 y7.1.length c10), (8, .slice A1889 l1888.length c1890), (9, .int .i64 x1237), (10, .int .i64 x1238), (11, .int .i64 x1891)] ∧ Inv M w [.blk b2 24 [.int .i64 a0.N, .slice A0z0 a0.Edges.length c0z0], .row (tSlice 4 tBool) 27 A9 y7.1.length c10 y7.1, .row (tInt .i64) 3 A1889 l1888.length c1890 l1888]) H ⟨_, (some ⟨b1529, 0, none⟩), c1236, at_slots _ (by kernel_rfl), hI⟩ ?_
        clear H hI
        rintro ⟨l1888, x1891⟩ _ _ o2 H ⟨_, A1889, c1890, rfl, hI⟩ hin2 hout2
        refine go_seq ?_
        refine go_seq_join (o := o2) (fun b1900 f w => ∃ (j : Nat → Value), f = updL j [(2, .pointer (some ⟨b2, 0, none⟩)), (6, .slice A9 y7.1.length c10), (8, .slice A1889 l1888.length c1890), (9, .int .i64 x1237), (10, .int .i64 x1238), (11, .int .i64 x1891), (42, .bool b1900)] ∧ Inv M w [.blk b2 24 [.int .i64 a0.N, .slice A0z0 a0.Edges.length c0z0], .row (tSlice 4 tBool) 27 A9 y7.1.length c10 y7.1, .row (tInt .i64) 3 A1889 l1888.length c1890 l1888]) (fun b1900 => assizeref06zParts.j4 y7 x1237 x1238 l1888 x1891 b1900) ?_ (fun hJ1901 => ?_)
        · clear H hI
          rintro b1900 _ _ ⟨_, rfl, hI⟩ H
          replace H := cond_some H
          rcases H with ⟨hc1902, H⟩ | ⟨hc1902, H⟩
          · refine go_then' (t := b1900) (by kernel_rfl) hc1902 ?_
            refine go_skip ?_
            refine go_seq ?_
            refine go_block_join (o := o2) (fun l1964 f w => ∃ (j : Nat → Value) (A1965 : Option Addr) (c1966 : Nat), f = updL j [(2, .pointer (some ⟨b2, 0, none⟩)), (6, .slice A9 y7.1.length c10), (8, .slice A1965 l1964.length c1966), (9, .int .i64 x1237), (10, .int .i64 x1238), (11, .int .i64 x1891)] ∧ Inv M w [.blk b2 24 [.int .i64 a0.N, .slice A0z0 a0.Edges.length c0z0], .row (tSlice 4 tBool) 27 A9 y7.1.length c10 y7.1, .row (tInt .i64) 3 A1965 l1964.length c1966 l1964]) (fun l1964 => assizeref06zParts.j5 x1891 l1964) ?_ (fun hJ1967 => ?_)
            · clear H hI
              rintro l1964 _ _ ⟨_, A1965, c1966, rfl, hI⟩ H
              refine r_in ?_
              refine o_batch 0 [] [.p, .p, .p] [(43, .int .i64 x1891), (44, .int .i64 (w64 (x1891 + 1))), (11, .int .i64 (w64 (x1891 + 1)))] [] trivial trivial (by kernel_rfl) (by kernel_rfl) (by kernel_rfl) ?_
              refine r_out (by kernel_rfl) ?_
              exact hin2 _ (Option.some.inj H).symm _ _ ⟨_, A1965, c1966, at_slots _ (by kernel_rfl), hI⟩
            · refine go_seq_join (o := o2) (fun b1992 f w => ∃ (j : Nat → Value), f = updL j [(2, .pointer (some ⟨b2, 0, none⟩)), (6, .slice A9 y7.1.length c10), (8, .slice A1889 l1888.length c1890), (9, .int .i64 x1237), (10, .int .i64 x1238), (11, .int .i64 x1891), (60, .bool b1992)] ∧ Inv M w [.blk b2 24 [.int .i64 a0.N, .slice A0z0 a0.Edges.length c0z0], .row (tSlice 4 tBool) 27 A9 y7.1.length c10 y7.1, .row (tInt .i64) 3 A1889 l1888.length c1890 l1888]) (fun b1992 => assizeref06zParts.j6 x1238 l1888 x1891 b1992) ?_ (fun hJ1993 => ?_)
              · clear H hI
                rintro b1992 _ _ ⟨_, rfl, hI⟩ H
                replace H := cond_some H
                rcases H with ⟨hc1994, H⟩ | ⟨hc1994, H⟩
                · refine go_then' (t := b1992) (by kernel_rfl) hc1994 ?_
                  refine r_in ?_
                  replace H := must_some H
                  obtain ⟨g1995, H⟩ := H
                  obtain ⟨b1996, rfl⟩ := hI.rowAt 2 rfl g1995
                  replace H := must_some H
                  obtain ⟨g1997, H⟩ := H
                  refine o_batch 0 [(b1996, 0 + x1891.toNat * 1, [.int .i64 (idx l1888 x1891)])] [.p, .p, .p, .p, .x, .l 0 0, .x] [(61, .slice (some ⟨b1996, 0, none⟩) l1888.length c1890), (62, .int .i64 x1238), (63, .slice (some ⟨b1996, 0, none⟩) l1888.length c1890), (64, .int .i64 x1891), (65, .pointer (some ⟨b1996, 0 + x1891.toNat * 1, none⟩)), (66, .int .i64 (idx l1888 x1891)), (67, .pointer (some ⟨b1996, 0 + x1238.toNat * 1, none⟩))] [(x1891, l1888.length), (x1238, l1888.length)] ⟨(rdS.flook (hI.row 2 rfl) (hI.rowlen 2 rfl) g1995).ok, trivial⟩ ⟨g1995, g1997, trivial⟩ (by kernel_rfl) (by kernel_rfl) (by kernel_rfl) ?_
                  refine o_eff 7 _ rfl (by kernel_rfl) ?_
                  refine e_put 3 _ _ 2 b1996 3 l1888.length c1890 l1888 (idx l1888 x1891) x1238 0 (.int .i64 (idx l1888 x1891)) rfl (by kernel_rfl) (by kernel_rfl) (by kernel_rfl) (by kernel_rfl) hI rfl g1997 (by kernel_rfl) (by kernel_rfl) ?_
                  clear hI
                  intro _ hI
                  refine r_out (by kernel_rfl) ?_
                  refine go_inBlock ?_
                  refine go_is 8 (.slice (some ⟨b1996, 0, none⟩) l1888.length c1890) (.slice (some ⟨b1996, 0, none⟩) ((l1888.set x1238.toNat (idx l1888 x1891)).length) c1890) (by kernel_rfl) (by first | rfl | simp only [List.length_set, List.length_replicate, List.length_nil]) ?_
                  replace hI := hI.renum 2 rfl
                  exact hJ1967 (l1888.set x1238.toNat (idx l1888 x1891)) _ _ ⟨_, (some ⟨b1996, 0, none⟩), c1890, at_slots _ (by kernel_rfl), hI⟩ H
                · refine go_else' (t := b1992) (by kernel_rfl) hc1994 ?_
                  refine go_skip ?_
                  refine go_inBlock ?_
                  exact hJ1967 l1888 _ _ ⟨_, A1889, c1890, at_slots _ (by kernel_rfl), hI⟩ H
              · refine r_in ?_
                replace H := must_some H
                obtain ⟨g1998, H⟩ := H
                obtain ⟨b1999, rfl⟩ := hI.rowAt 1 rfl g1998
                obtain ⟨cs2002, hk2001, hg2000⟩ := rdS.look (hI.row 1 rfl) (hI.rowlen 1 rfl) g1998
                obtain ⟨A2003, c2004, rfl, hl2006, hr2005⟩ := hk2001
                replace H := must_some H
                obtain ⟨g2007, H⟩ := H
                obtain ⟨b2008, q2009, rfl, _⟩ := rdS.fopen hr2005 rfl g2007
                replace H := cond_some H
                rcases H with ⟨hc2010, H⟩ | ⟨hc2010, H⟩
                · replace H := must_some H
                  obtain ⟨g2011, H⟩ := H
                  obtain ⟨cs2014, hk2013, hg2012⟩ := rdS.look (hI.row 1 rfl) (hI.rowlen 1 rfl) g2011
                  obtain ⟨A2015, c2016, rfl, hl2018, hr2017⟩ := hk2013
                  replace H := must_some H
                  obtain ⟨g2019, H⟩ := H
                  obtain ⟨b2020, q2021, rfl, _⟩ := rdS.fopen hr2017 rfl g2019
                  refine o_batch 0 [(b1999, 0 + x1238.toNat * 1, [.slice (some ⟨b2008, q2009, none⟩) ((idx y7.1 x1238).length) c2004]), (b2008, q2009 + x1891.toNat * 1, [.bool (idx (idx y7.1 x1238) x1891)]), (b1999, 0 + x1891.toNat * 1, [.slice (some ⟨b2020, q2021, none⟩) ((idx y7.1 x1891).length) c2016]), (b2020, q2021 + x1238.toNat * 1, [.bool (idx (idx y7.1 x1891) x1238)])] [.p, .p, .x, .l 0 0, .p, .x, .l 1 0, .c true, .p, .p, .x, .l 2 0, .p, .x, .l 3 0, .p] [(45, .slice (some ⟨b1999, 0, none⟩) y7.1.length c10), (46, .int .i64 x1238), (47, .pointer (some ⟨b1999, 0 + x1238.toNat * 1, none⟩)), (48, .slice (some ⟨b2008, q2009, none⟩) ((idx y7.1 x1238).length) c2004), (49, .int .i64 x1891), (50, .pointer (some ⟨b2008, q2009 + x1891.toNat * 1, none⟩)), (51, .bool (idx (idx y7.1 x1238) x1891)), (52, .bool true), (53, .slice (some ⟨b1999, 0, none⟩) y7.1.length c10), (54, .int .i64 x1891), (55, .pointer (some ⟨b1999, 0 + x1891.toNat * 1, none⟩)), (56, .slice (some ⟨b2020, q2021, none⟩) ((idx y7.1 x1891).length) c2016), (57, .int .i64 x1238), (58, .pointer (some ⟨b2020, q2021 + x1238.toNat * 1, none⟩)), (59, .bool (idx (idx y7.1 x1891) x1238)), (60, .bool (idx (idx y7.1 x1891) x1238))] [(x1238, y7.1.length), (x1891, (idx y7.1 x1238).length), ((bif (idx (idx y7.1 x1238) x1891) == true then 0 else -1), 1), (x1891, y7.1.length), (x1238, (idx y7.1 x1891).length)] ⟨hg2000.ok, (rdS.flook hr2005 rfl g2007).ok, hg2012.ok, (rdS.flook hr2017 rfl g2019).ok, trivial⟩ ⟨g1998, g2007, (bndEq hc2010), g2011, g2019, trivial⟩ (by kernel_rfl) (by kernel_rfl) (by kernel_rfl) ?_
                  refine r_out (by kernel_rfl) ?_
                  exact hJ1993 (idx (idx y7.1 x1891) x1238) _ _ ⟨_, at_slots _ (by kernel_rfl), hI⟩ H
                · refine o_batch 0 [(b1999, 0 + x1238.toNat * 1, [.slice (some ⟨b2008, q2009, none⟩) ((idx y7.1 x1238).length) c2004]), (b2008, q2009 + x1891.toNat * 1, [.bool (idx (idx y7.1 x1238) x1891)])] [.p, .p, .x, .l 0 0, .p, .x, .l 1 0, .c false, .p, .p, .p, .p, .p, .p, .p, .p] [(45, .slice (some ⟨b1999, 0, none⟩) y7.1.length c10), (46, .int .i64 x1238), (47, .pointer (some ⟨b1999, 0 + x1238.toNat * 1, none⟩)), (48, .slice (some ⟨b2008, q2009, none⟩) ((idx y7.1 x1238).length) c2004), (49, .int .i64 x1891), (50, .pointer (some ⟨b2008, q2009 + x1891.toNat * 1, none⟩)), (51, .bool (idx (idx y7.1 x1238) x1891)), (52, .bool false), (53, undef), (54, undef), (55, undef), (56, undef), (57, undef), (58, undef), (59, undef), (60, .bool false)] [(x1238, y7.1.length), (x1891, (idx y7.1 x1238).length), ((bif (idx (idx y7.1 x1238) x1891) == false then 0 else -1), 1)] ⟨hg2000.ok, (rdS.flook hr2005 rfl g2007).ok, trivial⟩ ⟨g1998, g2007, (bndEq hc2010), trivial⟩ (by kernel_rfl) (by kernel_rfl) (by kernel_rfl) ?_
                  refine r_out (by kernel_rfl) ?_
                  exact hJ1993 false _ _ ⟨_, at_slots _ (by kernel_rfl), hI⟩ H
          · refine go_else' (t := b1900) (by kernel_rfl) hc1902 ?_
            refine go_exit rfl ?_
            refine go_seq ?_
            refine r_in ?_
            replace H := must_some H
            obtain ⟨g2024, H⟩ := H
            obtain ⟨b2025, rfl⟩ := hI.rowAt 2 rfl g2024
            refine o_batch 0 [(b2025, 0 + x1238.toNat * 1, [.int .i64 (idx l1888 x1238)])] [.p, .p, .x, .l 0 0, .p] [(68, .slice (some ⟨b2025, 0, none⟩) l1888.length c1890), (69, .int .i64 x1238), (70, .pointer (some ⟨b2025, 0 + x1238.toNat * 1, none⟩)), (71, .int .i64 (idx l1888 x1238)), (72, .bool (decide (idx l1888 x1238 < 0)))] [(x1238, l1888.length)] ⟨(rdS.flook (hI.row 2 rfl) (hI.rowlen 2 rfl) g2024).ok, trivial⟩ ⟨g2024, trivial⟩ (by kernel_rfl) (by kernel_rfl) (by kernel_rfl) ?_
            refine r_out (by kernel_rfl) ?_
            replace H := cond_some H
            rcases H with ⟨hc2026, H⟩ | ⟨hc2026, H⟩
            · refine go_then' (t := decide (idx l1888 x1238 < 0)) (by kernel_rfl) hc2026 ?_
              refine go_seq ?_
              refine r_in ?_
              refine o_batch 0 [] [.p, .p, .p, .x] [(73, .slice (some ⟨b2025, 0, none⟩) l1888.length c1890), (74, .int .i64 x1238), (75, .int .i64 x1237), (76, .pointer (some ⟨b2025, 0 + x1238.toNat * 1, none⟩))] [(x1238, l1888.length)] trivial ⟨g2024, trivial⟩ (by kernel_rfl) (by kernel_rfl) (by kernel_rfl) ?_
              refine o_eff 4 _ rfl (by kernel_rfl) ?_
              refine e_put 3 _ _ 2 b2025 3 l1888.length c1890 l1888 x1237 x1238 0 (.int .i64 x1237) rfl (by kernel_rfl) (by kernel_rfl) (by kernel_rfl) (by kernel_rfl) hI rfl g2024 (by kernel_rfl) (by kernel_rfl) ?_
              clear hI
              intro _ hI
              refine r_out (by kernel_rfl) ?_
              refine r_in ?_
              refine o_batch 0 [] [.p, .p, .p] [(77, .int .i64 x1237), (78, .int .i64 (w64 (x1237 + 1))), (9, .int .i64 (w64 (x1237 + 1)))] [] trivial trivial (by kernel_rfl) (by kernel_rfl) (by kernel_rfl) ?_
              refine r_out (by kernel_rfl) ?_
              refine go_inBlock ?_
              refine go_is 8 (.slice (some ⟨b2025, 0, none⟩) l1888.length c1890) (.slice (some ⟨b2025, 0, none⟩) ((l1888.set x1238.toNat x1237).length) c1890) (by kernel_rfl) (by first | rfl | simp only [List.length_set, List.length_replicate, List.length_nil]) ?_
              replace hI := hI.renum 2 rfl
              replace H := out_some H
              obtain ⟨_, H, he2⟩ := H
              have he := (hout2 _ he2).symm
              subst he
              exact hJ1525 (l1888.set x1238.toNat x1237, w64 (x1237 + 1)) _ _ ⟨_, (some ⟨b2025, 0, none⟩), c1890, at_slots _ (by kernel_rfl), hI⟩ H
            · refine go_else' (t := decide (idx l1888 x1238 < 0)) (by kernel_rfl) hc2026 ?_
              refine go_skip ?_
              refine go_inBlock ?_
              replace H := out_some H
              obtain ⟨_, H, he2⟩ := H
              have he := (hout2 _ he2).symm
              subst he
              exact hJ1525 (l1888, x1237) _ _ ⟨_, (some ⟨b2025, 0, none⟩), c1890, at_slots _ (by kernel_rfl), hI⟩ H
        · refine r_in ?_
          replace H := cond_some H
          rcases H with ⟨hc2027, H⟩ | ⟨hc2027, H⟩
          · replace H := must_some H
            obtain ⟨g2028, H⟩ := H
            obtain ⟨b2029, rfl⟩ := hI.rowAt 2 rfl g2028
            refine o_batch 0 [(b2029, 0 + x1238.toNat * 1, [.int .i64 (idx l1888 x1238)])] [.p, .p, .p, .c true, .p, .p, .x, .l 0 0, .p, .p] [(33, .int .i64 x1891), (34, .int .i64 x1238), (35, .bool (decide (x1891 < x1238))), (36, .bool true), (37, .slice (some ⟨b2029, 0, none⟩) l1888.length c1890), (38, .int .i64 x1238), (39, .pointer (some ⟨b2029, 0 + x1238.toNat * 1, none⟩)), (40, .int .i64 (idx l1888 x1238)), (41, .bool (decide (idx l1888 x1238 < 0))), (42, .bool (decide (idx l1888 x1238 < 0)))] [((bif (decide (x1891 < x1238)) == true then 0 else -1), 1), (x1238, l1888.length)] ⟨(rdS.flook (hI.row 2 rfl) (hI.rowlen 2 rfl) g2028).ok, trivial⟩ ⟨(bndEq hc2027), g2028, trivial⟩ (by kernel_rfl) (by kernel_rfl) (by kernel_rfl) ?_
            refine r_out (by kernel_rfl) ?_
            exact hJ1901 (decide (idx l1888 x1238 < 0)) _ _ ⟨_, at_slots _ (by kernel_rfl), hI⟩ H
          · refine o_batch 0 [] [.p, .p, .p, .c false, .p, .p, .p, .p, .p, .p] [(33, .int .i64 x1891), (34, .int .i64 x1238), (35, .bool (decide (x1891 < x1238))), (36, .bool false), (37, undef), (38, undef), (39, undef), (40, undef), (41, undef), (42, .bool false)] [((bif (decide (x1891 < x1238)) == false then 0 else -1), 1)] trivial ⟨(bndEq hc2027), trivial⟩ (by kernel_rfl) (by kernel_rfl) (by kernel_rfl) ?_
            refine r_out (by kernel_rfl) ?_
            exact hJ1901 false _ _ ⟨_, at_slots _ (by kernel_rfl), hI⟩ H
    · refine go_else' (t := decide (x1238 < a0.N)) (by kernel_rfl) hc1240 ?_
      refine go_exit rfl ?_
      refine go_seq ?_
      refine r_in ?_
      refine o_batch 0 [] [.p, .p, .p] [(79, .slice A1235 l1234.length c1236), (4, .slice A1235 l1234.length c1236), (5, .int .i64 0)] [] trivial trivial (by kernel_rfl) (by kernel_rfl) (by kernel_rfl) ?_
      refine r_out (by kernel_rfl) ?_
      replace H := out_some H
      obtain ⟨_, H, he1⟩ := H
      have he := (hout1 _ he1).symm
      subst he
      replace H := Option.some.inj H
      subst H
      exact go_return (.tuple #[.slice A1235 l1234.length c1236, .int .i64 0]) Tryd.func24 (by kernel_rfl) ⟨A1235, c1236, rfl, hI.pick [2] (by decide) rfl⟩

/-! ### assizeref05.SameInts -/
theorem enter25 (a : Array Value) : Sem.pureRun Tryd.prog (callFunc 25 a) = some (.enter 25 a) := by kernel_rfl
theorem assizeref05zSameInts_calls (A0z : Option Addr) (c0z : Nat) (a0 : List Int) (A1z : Option Addr) (c1z : Nat) (a1 : List Int) (M : Mem) (w : World) (hI : Inv M w []) (hr0z : rdS (tInt .i64) M.blk A0z a0) (hl0z : a0.length ≤ c0z) (hr1z : rdS (tInt .i64) M.blk A1z a1) (hl1z : a1.length ≤ c1z) (r : Bool) (H : assizeref05zSameInts a0 a1 = some r) :
    Calls Tryd.prog 25 #[.slice A0z a0.length c0z, .slice A1z a1.length c1z] w fun e w' => e = .returned (.bool r) ∧ Inv M w' [] := by
  refine calls_go (updL (fun _ => undef) [(0, .slice A0z a0.length c0z), (1, .slice A1z a1.length c1z)]) Tryd.func25 rfl (by kernel_rfl) ?_
  intro cs
  unfold assizeref05zSameInts at H
  refine go_seq ?_
  refine r_in ?_
  refine o_batch 0 [] [.p] [(4, .bool false)] [] trivial trivial (by kernel_rfl) (by kernel_rfl) (by kernel_rfl) ?_
  refine r_out (by kernel_rfl) ?_
  refine go_seq ?_
  refine go_seq ?_
  refine r_in ?_
  refine o_batch 0 [] [.p, .p, .p, .p, .p] [(6, .slice A0z a0.length c0z), (7, .int .i64 (a0.length : Int)), (8, .slice A1z a1.length c1z), (9, .int .i64 (a1.length : Int)), (10, .bool ((a0.length : Int) != (a1.length : Int)))] [] trivial trivial (by kernel_rfl) (by kernel_rfl) (by kernel_rfl) ?_
  refine r_out (by kernel_rfl) ?_
  replace H := cond_some H
  rcases H with ⟨hc2, H⟩ | ⟨hc2, H⟩
  · refine go_then' (t := ((a0.length : Int) != (a1.length : Int))) (by kernel_rfl) hc2 ?_
    refine go_seq ?_
    refine r_in ?_
    refine o_batch 0 [] [.p] [(4, .bool false)] [] trivial trivial (by kernel_rfl) (by kernel_rfl) (by kernel_rfl) ?_
    refine r_out (by kernel_rfl) ?_
    replace H := Option.some.inj H
    subst H
    exact go_return (.bool false) Tryd.func25 (by kernel_rfl) ⟨rfl, hI⟩
  · refine go_else' (t := ((a0.length : Int) != (a1.length : Int))) (by kernel_rfl) hc2 ?_
    refine go_skip ?_
    refine go_seq ?_
    refine go_seq ?_
    refine r_in ?_
    refine o_batch 0 [] [.p] [(5, .int .i64 0)] [] trivial trivial (by kernel_rfl) (by kernel_rfl) (by kernel_rfl) ?_
    refine r_out (by kernel_rfl) ?_
    refine go_block ?_
    refine go_iter (assizeref05zSameInts.s1 a0 a1) (fun x84 f w => ∃ (j : Nat → Value), f = updL j [(0, .slice A0z a0.length c0z), (1, .slice A1z a1.length c1z), (5, .int .i64 x84)] ∧ Inv M w []) H ⟨_, at_slots _ (by kernel_rfl), hI⟩ ?_
    clear H hI
    rintro x84 _ _ o1 H ⟨_, rfl, hI⟩ hin1 hout1
    refine go_seq ?_
    refine go_seq ?_
    refine r_in ?_
    refine o_batch 0 [] [.p, .p, .p, .p] [(11, .int .i64 x84), (12, .slice A0z a0.length c0z), (13, .int .i64 (a0.length : Int)), (14, .bool (decide (x84 < (a0.length : Int))))] [] trivial trivial (by kernel_rfl) (by kernel_rfl) (by kernel_rfl) ?_
    refine r_out (by kernel_rfl) ?_
    replace H := cond_some H
    rcases H with ⟨hc86, H⟩ | ⟨hc86, H⟩
    · refine go_then' (t := decide (x84 < (a0.length : Int))) (by kernel_rfl) hc86 ?_
      refine go_skip ?_
      refine go_seq ?_
      refine go_block ?_
      refine go_seq ?_
      replace H := must_some H
      obtain ⟨g107, H⟩ := H
      obtain ⟨b108, q109, rfl, _⟩ := rdS.fopen hr0z rfl g107
      replace H := must_some H
      obtain ⟨g110, H⟩ := H
      obtain ⟨b111, q112, rfl, _⟩ := rdS.fopen hr1z rfl g110
      refine d_still [(b108, q109 + x84.toNat * 1, [.int .i64 (idx a0 x84)]), (b111, q112 + x84.toNat * 1, [.int .i64 (idx a1 x84)])] [.p, .p, .x, .l 0 0, .p, .p, .x, .l 1 0, .p] [(17, .slice (some ⟨b108, q109, none⟩) a0.length c0z), (18, .int .i64 x84), (19, .pointer (some ⟨b108, q109 + x84.toNat * 1, none⟩)), (20, .int .i64 (idx a0 x84)), (21, .slice (some ⟨b111, q112, none⟩) a1.length c1z), (22, .int .i64 x84), (23, .pointer (some ⟨b111, q112 + x84.toNat * 1, none⟩)), (24, .int .i64 (idx a1 x84)), (25, .bool (idx a0 x84 != idx a1 x84))] [(x84, a0.length), (x84, a1.length)] (by kernel_rfl) (by kernel_rfl) rfl ⟨(hI.lies (rdS.flook hr0z rfl g107)), (hI.lies (rdS.flook hr1z rfl g110)), trivial⟩ ⟨g107, g110, trivial⟩ (by kernel_rfl) (by kernel_rfl) (by kernel_rfl) hI ?_
      clear hI
      intro _ hI
      replace H := cond_some H
      rcases H with ⟨hc113, H⟩ | ⟨hc113, H⟩
      · refine go_then' (t := (idx a0 x84 != idx a1 x84)) (by kernel_rfl) hc113 ?_
        refine go_seq ?_
        refine r_in ?_
        refine o_batch 0 [] [.p] [(4, .bool false)] [] trivial trivial (by kernel_rfl) (by kernel_rfl) (by kernel_rfl) ?_
        refine r_out (by kernel_rfl) ?_
        replace H := out_some H
        obtain ⟨_, H, he1⟩ := H
        have he := (hout1 _ he1).symm
        subst he
        replace H := Option.some.inj H
        subst H
        exact go_return (.bool false) Tryd.func25 (by kernel_rfl) ⟨rfl, hI⟩
      · refine go_else' (t := (idx a0 x84 != idx a1 x84)) (by kernel_rfl) hc113 ?_
        refine go_skip ?_
        refine go_inBlock ?_
        refine r_in ?_
        refine o_batch 0 [] [.p, .p, .p] [(15, .int .i64 x84), (16, .int .i64 (w64 (x84 + 1))), (5, .int .i64 (w64 (x84 + 1)))] [] trivial trivial (by kernel_rfl) (by kernel_rfl) (by kernel_rfl) ?_
        refine r_out (by kernel_rfl) ?_
        exact hin1 _ (Option.some.inj H).symm _ _ ⟨_, at_slots _ (by kernel_rfl), hI⟩
    · refine go_else' (t := decide (x84 < (a0.length : Int))) (by kernel_rfl) hc86 ?_
      refine go_exit rfl ?_
      refine go_seq ?_
      refine r_in ?_
      refine o_batch 0 [] [.p] [(4, .bool true)] [] trivial trivial (by kernel_rfl) (by kernel_rfl) (by kernel_rfl) ?_
      refine r_out (by kernel_rfl) ?_
      replace H := out_some H
      obtain ⟨_, H, he1⟩ := H
      have he := (hout1 _ he1).symm
      subst he
      replace H := Option.some.inj H
      subst H
      exact go_return (.bool true) Tryd.func25 (by kernel_rfl) ⟨rfl, hI⟩

/-! ### assizelaw06.GraphOrders -/
theorem enter6 (a : Array Value) : Sem.pureRun Tryd.prog (callFunc 6 a) = some (.enter 6 a) := by kernel_rfl
theorem assizelaw06zGraphOrders_calls (a0 : Graph) (A0z0 : Option Addr) (c0z0 : Nat) (a1 : Int) (M : Mem) (w : World) (hI : Inv M w []) (hT : TabM M.blk) (hr0z0 : rdS kEdge M.blk A0z0 a0.Edges) (hl0z0 : a0.Edges.length ≤ c0z0) (r : Bool) (H : assizelaw06zGraphOrders a0 a1 = some r) :
    Calls Tryd.prog 6 #[.agg #[.int .i64 a0.N, .slice A0z0 a0.Edges.length c0z0], .int .i64 a1] w fun e w' => e = .returned (.bool r) ∧ Inv M w' [] := by
  refine calls_go (updL (fun _ => undef) [(0, .agg #[.int .i64 a0.N, .slice A0z0 a0.Edges.length c0z0]), (1, .int .i64 a1)]) Tryd.func6 rfl (by kernel_rfl) ?_
  intro cs
  unfold assizelaw06zGraphOrders at H
  refine go_seq ?_
  refine r_in ?_
  refine o_eff 0 _ rfl (by kernel_rfl) ?_
  refine e_box 24 _ (.agg #[.int .i64 a0.N, .slice A0z0 a0.Edges.length c0z0]) [.int .i64 a0.N, .slice A0z0 a0.Edges.length c0z0] rfl (by kernel_rfl) rfl hI ?_
  clear hI
  intro b2 _ hI
  refine o_batch 1 [] [.p] [(4, .bool false)] [] trivial trivial (by kernel_rfl) (by kernel_rfl) (by kernel_rfl) ?_
  refine r_out (by kernel_rfl) ?_
  refine go_seq ?_
  refine go_seq ?_
  refine r_in ?_
  replace H := bind_some H
  obtain ⟨y8, hy9, H⟩ := H
  refine o_eff 0 _ rfl (by kernel_rfl) ?_
  refine e_callf _ _ _ 10 #[] #[] #[] #[] rfl (by kernel_rfl) (by kernel_rfl) (by kernel_rfl) (enter10 _) (assizelaw06zalive_calls (memOf _) _ (Inv.start _) (hI.rd hT) _ hy9) ?_
  rintro _ _ ⟨rfl, hI'⟩
  replace hI := hI.call0 hI'
  clear hI'
  refine ⟨_, rfl, ?_⟩
  refine o_batch 1 [] [.p] [(16, .bool (!y8))] [] trivial trivial (by kernel_rfl) (by kernel_rfl) (by kernel_rfl) ?_
  refine r_out (by kernel_rfl) ?_
  replace H := cond_some H
  rcases H with ⟨hc10, H⟩ | ⟨hc10, H⟩
  · refine go_then' (t := !y8) (by kernel_rfl) hc10 ?_
    refine go_seq ?_
    refine r_in ?_
    refine o_batch 0 [] [.p] [(4, .bool false)] [] trivial trivial (by kernel_rfl) (by kernel_rfl) (by kernel_rfl) ?_
    refine r_out (by kernel_rfl) ?_
    replace H := Option.some.inj H
    subst H
    exact go_return (.bool false) Tryd.func6 (by kernel_rfl) ⟨rfl, hI.pick [] (by decide) rfl⟩
  · refine go_else' (t := !y8) (by kernel_rfl) hc10 ?_
    refine go_skip ?_
    refine go_seq ?_
    refine r_in ?_
    refine o_batch 0 [(b2, 0, [.int .i64 a0.N, .slice A0z0 a0.Edges.length c0z0])] [.l 0 0] [(18, .agg #[.int .i64 a0.N, .slice A0z0 a0.Edges.length c0z0])] [] ⟨(hI.grp 0 rfl), trivial⟩ trivial (by kernel_rfl) (by kernel_rfl) (by kernel_rfl) ?_
    replace H := bind_some H
    obtain ⟨y19, hy20, H⟩ := H
    refine o_eff 1 _ rfl (by kernel_rfl) ?_
    refine e_callf _ _ _ 11 #[] #[] #[.agg #[.int .i64 a0.N, .slice A0z0 a0.Edges.length c0z0]] #[.agg #[.int .i64 a0.N, .slice A0z0 a0.Edges.length c0z0]] rfl (by kernel_rfl) (by kernel_rfl) (by kernel_rfl) (enter11 _) (assizeref06zCopy_calls a0 A0z0 c0z0 (memOf _) _ (Inv.start _) (hI.rd hr0z0) hl0z0 _ hy20) ?_
    rintro _ _ ⟨A21, c22, rfl, hI'⟩
    replace hI := hI.call0 hI'
    clear hI'
    refine ⟨_, rfl, ?_⟩
    refine o_batch 2 [] [.p] [(20, .int .i64 a1)] [] trivial trivial (by kernel_rfl) (by kernel_rfl) (by kernel_rfl) ?_
    replace H := bind_some H
    obtain ⟨y23, hy24, H⟩ := H
    refine o_eff 3 _ rfl (by kernel_rfl) ?_
    refine e_callf _ _ _ 21 #[] #[] #[.agg #[.int .i64 y19.N, .slice A21 y19.Edges.length c22], .int .i64 a1] #[.agg #[.int .i64 y19.N, .slice A21 y19.Edges.length c22], .int .i64 a1] rfl (by kernel_rfl) (by kernel_rfl) (by kernel_rfl) (enter21 _) (graph_Order_calls y19 A21 c22 a1 (memOf _) _ (Inv.start _) (hI.rd hT) (hI.row 1 rfl) (hI.rowle 1 rfl) _ hy24) ?_
    rintro _ _ ⟨A25, c26, rfl, hI'⟩
    replace hI := hI.call0 hI'
    clear hI'
    refine ⟨_, rfl, ?_⟩
    refine o_batch 4 [] [.p, .p, .p, .p, .p, .p, .p] [(17, .tuple #[.slice A25 y23.1.length c26, .bool y23.2.1, .int .i64 y23.2.2]), (22, .slice A25 y23.1.length c26), (23, .bool y23.2.1), (24, .int .i64 y23.2.2), (5, .slice A25 y23.1.length c26), (6, .bool y23.2.1), (7, .int .i64 y23.2.2)] [] trivial trivial (by kernel_rfl) (by kernel_rfl) (by kernel_rfl) ?_
    refine r_out (by kernel_rfl) ?_
    refine go_seq ?_
    refine r_in ?_
    refine o_batch 0 [(b2, 0, [.int .i64 a0.N, .slice A0z0 a0.Edges.length c0z0])] [.l 0 0, .p] [(26, .agg #[.int .i64 a0.N, .slice A0z0 a0.Edges.length c0z0]), (27, .int .i64 a1)] [] ⟨(hI.grp 0 rfl), trivial⟩ trivial (by kernel_rfl) (by kernel_rfl) (by kernel_rfl) ?_
    replace H := bind_some H
    obtain ⟨y31, hy32, H⟩ := H
    refine o_eff 2 _ rfl (by kernel_rfl) ?_
    refine e_callf _ _ _ 22 #[] #[] #[.agg #[.int .i64 a0.N, .slice A0z0 a0.Edges.length c0z0], .int .i64 a1] #[.agg #[.int .i64 a0.N, .slice A0z0 a0.Edges.length c0z0], .int .i64 a1] rfl (by kernel_rfl) (by kernel_rfl) (by kernel_rfl) (enter22 _) (assizeref06zOrder_calls a0 A0z0 c0z0 a1 (memOf _) _ (Inv.start _) (hI.rd hr0z0) hl0z0 _ hy32) ?_
    rintro _ _ ⟨A33, c34, rfl, hI'⟩
    replace hI := hI.call0 hI'
    clear hI'
    refine ⟨_, rfl, ?_⟩
    refine o_batch 3 [] [.p, .p, .p, .p, .p, .p, .p] [(25, .tuple #[.slice A33 y31.1.length c34, .bool y31.2.1, .int .i64 y31.2.2]), (29, .slice A33 y31.1.length c34), (30, .bool y31.2.1), (31, .int .i64 y31.2.2), (8, .slice A33 y31.1.length c34), (9, .bool y31.2.1), (10, .int .i64 y31.2.2)] [] trivial trivial (by kernel_rfl) (by kernel_rfl) (by kernel_rfl) ?_
    refine r_out (by kernel_rfl) ?_
    refine go_seq ?_
    refine r_in ?_
    refine o_batch 0 [(b2, 0, [.int .i64 a0.N, .slice A0z0 a0.Edges.length c0z0])] [.l 0 0] [(33, .agg #[.int .i64 a0.N, .slice A0z0 a0.Edges.length c0z0])] [] ⟨(hI.grp 0 rfl), trivial⟩ trivial (by kernel_rfl) (by kernel_rfl) (by kernel_rfl) ?_
    replace H := bind_some H
    obtain ⟨y43, hy44, H⟩ := H
    refine o_eff 1 _ rfl (by kernel_rfl) ?_
    refine e_callf _ _ _ 11 #[] #[] #[.agg #[.int .i64 a0.N, .slice A0z0 a0.Edges.length c0z0]] #[.agg #[.int .i64 a0.N, .slice A0z0 a0.Edges.length c0z0]] rfl (by kernel_rfl) (by kernel_rfl) (by kernel_rfl) (enter11 _) (assizeref06zCopy_calls a0 A0z0 c0z0 (memOf _) _ (Inv.start _) (hI.rd hr0z0) hl0z0 _ hy44) ?_
    rintro _ _ ⟨A45, c46, rfl, hI'⟩
    replace hI := hI.call0 hI'
    clear hI'
    refine ⟨_, rfl, ?_⟩
    refine o_batch 2 [] [.p] [(35, .int .i64 a1)] [] trivial trivial (by kernel_rfl) (by kernel_rfl) (by kernel_rfl) ?_
    replace H := bind_some H
    obtain ⟨y47, hy48, H⟩ := H
    refine o_eff 3 _ rfl (by kernel_rfl) ?_
    refine e_callf _ _ _ 23 #[] #[] #[.agg #[.int .i64 y43.N, .slice A45 y43.Edges.length c46], .int .i64 a1] #[.agg #[.int .i64 y43.N, .slice A45 y43.Edges.length c46], .int .i64 a1] rfl (by kernel_rfl) (by kernel_rfl) (by kernel_rfl) (enter23 _) (graph_Parts_calls y43 A45 c46 a1 (memOf _) _ (Inv.start _) (hI.rd hT) (hI.row 4 rfl) (hI.rowle 4 rfl) _ hy48) ?_
    rintro _ _ ⟨A49, c50, rfl, hI'⟩
    replace hI := hI.call0 hI'
    clear hI'
    refine ⟨_, rfl, ?_⟩
    refine o_batch 4 [] [.p, .p, .p, .p, .p] [(32, .tuple #[.slice A49 y47.1.length c50, .int .i64 y47.2]), (37, .slice A49 y47.1.length c50), (38, .int .i64 y47.2), (11, .slice A49 y47.1.length c50), (12, .int .i64 y47.2)] [] trivial trivial (by kernel_rfl) (by kernel_rfl) (by kernel_rfl) ?_
    refine r_out (by kernel_rfl) ?_
    refine go_seq ?_
    refine r_in ?_
    refine o_batch 0 [(b2, 0, [.int .i64 a0.N, .slice A0z0 a0.Edges.length c0z0])] [.l 0 0, .p] [(40, .agg #[.int .i64 a0.N, .slice A0z0 a0.Edges.length c0z0]), (41, .int .i64 a1)] [] ⟨(hI.grp 0 rfl), trivial⟩ trivial (by kernel_rfl) (by kernel_rfl) (by kernel_rfl) ?_
    replace H := bind_some H
    obtain ⟨y55, hy56, H⟩ := H
    refine o_eff 2 _ rfl (by kernel_rfl) ?_
    refine e_callf _ _ _ 24 #[] #[] #[.agg #[.int .i64 a0.N, .slice A0z0 a0.Edges.length c0z0], .int .i64 a1] #[.agg #[.int .i64 a0.N, .slice A0z0 a0.Edges.length c0z0], .int .i64 a1] rfl (by kernel_rfl) (by kernel_rfl) (by kernel_rfl) (enter24 _) (assizeref06zParts_calls a0 A0z0 c0z0 a1 (memOf _) _ (Inv.start _) (hI.rd hr0z0) hl0z0 _ hy56) ?_
    rintro _ _ ⟨A57, c58, rfl, hI'⟩
    replace hI := hI.call0 hI'
    clear hI'
    refine ⟨_, rfl, ?_⟩
    refine o_batch 3 [] [.p, .p, .p, .p, .p] [(39, .tuple #[.slice A57 y55.1.length c58, .int .i64 y55.2]), (43, .slice A57 y55.1.length c58), (44, .int .i64 y55.2), (13, .slice A57 y55.1.length c58), (14, .int .i64 y55.2)] [] trivial trivial (by kernel_rfl) (by kernel_rfl) (by kernel_rfl) ?_
    refine r_out (by kernel_rfl) ?_
    refine go_seq ?_
    refine r_in ?_
    replace H := cond_some H
    rcases H with ⟨hc67, H⟩ | ⟨hc67, H⟩
    · replace H := cond_some H
      rcases H with ⟨hc68, H⟩ | ⟨hc68, H⟩
      · refine o_batch 0 [] [.p, .p, .p, .c true, .p, .p, .p, .p, .c true, .p, .p] [(45, .int .i64 y23.2.2), (46, .int .i64 y31.2.2), (47, .bool (y23.2.2 == y31.2.2)), (48, .bool true), (49, .bool y23.2.1), (50, .bool y31.2.1), (51, .bool (y23.2.1 == y31.2.1)), (52, .bool (y23.2.1 == y31.2.1)), (53, .bool true), (54, .slice A25 y23.1.length c26), (55, .slice A33 y31.1.length c34)] [((bif (y23.2.2 == y31.2.2) == true then 0 else -1), 1), ((bif (y23.2.1 == y31.2.1) == true then 0 else -1), 1)] trivial ⟨(bndEq hc67), (bndEq hc68), trivial⟩ (by kernel_rfl) (by kernel_rfl) (by kernel_rfl) ?_
        replace H := bind_some H
        obtain ⟨y69, hy70, H⟩ := H
        refine o_eff 11 _ rfl (by kernel_rfl) ?_
        refine e_callf _ _ _ 25 #[] #[] #[.slice A25 y23.1.length c26, .slice A33 y31.1.length c34] #[.slice A25 y23.1.length c26, .slice A33 y31.1.length c34] rfl (by kernel_rfl) (by kernel_rfl) (by kernel_rfl) (enter25 _) (assizeref05zSameInts_calls A25 c26 y23.1 A33 c34 y31.1 (memOf _) _ (Inv.start _) (hI.row 2 rfl) (hI.rowle 2 rfl) (hI.row 3 rfl) (hI.rowle 3 rfl) _ hy70) ?_
        rintro _ _ ⟨rfl, hI'⟩
        replace hI := hI.call0 hI'
        clear hI'
        refine ⟨_, rfl, ?_⟩
        replace H := cond_some H
        rcases H with ⟨hc71, H⟩ | ⟨hc71, H⟩
        · replace H := cond_some H
          rcases H with ⟨hc72, H⟩ | ⟨hc72, H⟩
          · refine o_batch 12 [] [.p, .c true, .p, .p, .p, .p, .c true, .p, .p] [(57, .bool y69), (58, .bool true), (59, .int .i64 y47.2), (60, .int .i64 y55.2), (61, .bool (y47.2 == y55.2)), (62, .bool (y47.2 == y55.2)), (63, .bool true), (64, .slice A49 y47.1.length c50), (65, .slice A57 y55.1.length c58)] [((bif y69 == true then 0 else -1), 1), ((bif (y47.2 == y55.2) == true then 0 else -1), 1)] trivial ⟨(bndEq hc71), (bndEq hc72), trivial⟩ (by kernel_rfl) (by kernel_rfl) (by kernel_rfl) ?_
            replace H := bind_some H
            obtain ⟨y73, hy74, H⟩ := H
            refine o_eff 21 _ rfl (by kernel_rfl) ?_
            refine e_callf _ _ _ 25 #[] #[] #[.slice A49 y47.1.length c50, .slice A57 y55.1.length c58] #[.slice A49 y47.1.length c50, .slice A57 y55.1.length c58] rfl (by kernel_rfl) (by kernel_rfl) (by kernel_rfl) (enter25 _) (assizeref05zSameInts_calls A49 c50 y47.1 A57 c58 y55.1 (memOf _) _ (Inv.start _) (hI.row 5 rfl) (hI.rowle 5 rfl) (hI.row 6 rfl) (hI.rowle 6 rfl) _ hy74) ?_
            rintro _ _ ⟨rfl, hI'⟩
            replace hI := hI.call0 hI'
            clear hI'
            refine ⟨_, rfl, ?_⟩
            refine o_batch 22 [] [.p, .p] [(67, .bool y73), (4, .bool y73)] [] trivial trivial (by kernel_rfl) (by kernel_rfl) (by kernel_rfl) ?_
            refine r_out (by kernel_rfl) ?_
            replace H := Option.some.inj H
            subst H
            exact go_return (.bool y73) Tryd.func6 (by kernel_rfl) ⟨rfl, hI.pick [] (by decide) rfl⟩
          · refine o_batch 12 [] [.p, .c true, .p, .p, .p, .p, .c false, .p, .p, .p, .p, .p] [(57, .bool y69), (58, .bool true), (59, .int .i64 y47.2), (60, .int .i64 y55.2), (61, .bool (y47.2 == y55.2)), (62, .bool (y47.2 == y55.2)), (63, .bool false), (64, undef), (65, undef), (66, undef), (67, .bool false), (4, .bool false)] [((bif y69 == true then 0 else -1), 1), ((bif (y47.2 == y55.2) == false then 0 else -1), 1)] trivial ⟨(bndEq hc71), (bndEq hc72), trivial⟩ (by kernel_rfl) (by kernel_rfl) (by kernel_rfl) ?_
            refine r_out (by kernel_rfl) ?_
            replace H := Option.some.inj H
            subst H
            exact go_return (.bool false) Tryd.func6 (by kernel_rfl) ⟨rfl, hI.pick [] (by decide) rfl⟩
        · refine o_batch 12 [] [.p, .c false, .p, .p, .p, .p, .p, .p, .p, .p, .p, .p] [(57, .bool y69), (58, .bool false), (59, undef), (60, undef), (61, undef), (62, .bool false), (63, .bool false), (64, undef), (65, undef), (66, undef), (67, .bool false), (4, .bool false)] [((bif y69 == false then 0 else -1), 1)] trivial ⟨(bndEq hc71), trivial⟩ (by kernel_rfl) (by kernel_rfl) (by kernel_rfl) ?_
          refine r_out (by kernel_rfl) ?_
          replace H := Option.some.inj H
          subst H
          exact go_return (.bool false) Tryd.func6 (by kernel_rfl) ⟨rfl, hI.pick [] (by decide) rfl⟩
      · refine o_batch 0 [] [.p, .p, .p, .c true, .p, .p, .p, .p, .c false, .p, .p, .p, .p, .p, .p, .p, .p, .p, .p, .p, .p, .p, .p, .p] [(45, .int .i64 y23.2.2), (46, .int .i64 y31.2.2), (47, .bool (y23.2.2 == y31.2.2)), (48, .bool true), (49, .bool y23.2.1), (50, .bool y31.2.1), (51, .bool (y23.2.1 == y31.2.1)), (52, .bool (y23.2.1 == y31.2.1)), (53, .bool false), (54, undef), (55, undef), (56, undef), (57, .bool false), (58, .bool false), (59, undef), (60, undef), (61, undef), (62, .bool false), (63, .bool false), (64, undef), (65, undef), (66, undef), (67, .bool false), (4, .bool false)] [((bif (y23.2.2 == y31.2.2) == true then 0 else -1), 1), ((bif (y23.2.1 == y31.2.1) == false then 0 else -1), 1)] trivial ⟨(bndEq hc67), (bndEq hc68), trivial⟩ (by kernel_rfl) (by kernel_rfl) (by kernel_rfl) ?_
        refine r_out (by kernel_rfl) ?_
        replace H := Option.some.inj H
        subst H
        exact go_return (.bool false) Tryd.func6 (by kernel_rfl) ⟨rfl, hI.pick [] (by decide) rfl⟩
    · refine o_batch 0 [] [.p, .p, .p, .c false, .p, .p, .p, .p, .p, .p, .p, .p, .p, .p, .p, .p, .p, .p, .p, .p, .p, .p, .p, .p] [(45, .int .i64 y23.2.2), (46, .int .i64 y31.2.2), (47, .bool (y23.2.2 == y31.2.2)), (48, .bool false), (49, undef), (50, undef), (51, undef), (52, .bool false), (53, .bool false), (54, undef), (55, undef), (56, undef), (57, .bool false), (58, .bool false), (59, undef), (60, undef), (61, undef), (62, .bool false), (63, .bool false), (64, undef), (65, undef), (66, undef), (67, .bool false), (4, .bool false)] [((bif (y23.2.2 == y31.2.2) == false then 0 else -1), 1)] trivial ⟨(bndEq hc67), trivial⟩ (by kernel_rfl) (by kernel_rfl) (by kernel_rfl) ?_
      refine r_out (by kernel_rfl) ?_
      replace H := Option.some.inj H
      subst H
      exact go_return (.bool false) Tryd.func6 (by kernel_rfl) ⟨rfl, hI.pick [] (by decide) rfl⟩

end Go.Proofs.YtncapkloanfmnaaDoorT
