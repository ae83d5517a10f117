/- The walks, part 3: each call computes its plain function. -/
import Derived.Test.YtncapkloanfmnaaDoorTW2
import Derived.Shelf.Spec.TrailingZeros
import Derived.Test.YtncapkloanfmnaaDoorProg
namespace Go.Proofs.YtncapkloanfmnaaDoorT
open Go Go.Proofs Go.Shelf Go.Proofs.YtncapkloanfmnaaDoorE
set_option linter.unusedVariables false
set_option linter.unusedSimpArgs false
set_option maxHeartbeats 0
set_option maxRecDepth 4096
/-! ### graph.Parts -/
theorem enter23 (a : Array Value) : Sem.pureRun Tryd.prog (callFunc 23 a) = some (.enter 23 a) := by kernel_rfl
theorem graph_Parts_calls (a0 : Graph) (A0z0 : Option Addr) (c0z0 : Nat) (a1 : Int) (M : Mem) (w : World) (hI : Inv M w []) (hT : TabM M.blk) (hr0z0 : rdS kEdge M.blk A0z0 a0.Edges) (hl0z0 : a0.Edges.length ≤ c0z0) (r : List Int × Int) (H : graph_Parts a0 a1 = some r) :
    Calls Tryd.prog 23 #[.agg #[.int .i64 a0.N, .slice A0z0 a0.Edges.length c0z0], .int .i64 a1] w fun e w' => ∃ (A1192 : Option Addr) (c1193 : Nat), e = .returned (.tuple #[.slice A1192 r.1.length c1193, .int .i64 r.2]) ∧ Inv M w' [.row (tInt .i64) 3 A1192 r.1.length c1193 r.1] := by
  refine calls_go (updL (fun _ => undef) [(0, .agg #[.int .i64 a0.N, .slice A0z0 a0.Edges.length c0z0]), (1, .int .i64 a1)]) Tryd.func23 rfl (by kernel_rfl) ?_
  intro cs
  unfold graph_Parts at H
  refine go_seq ?_
  refine r_in ?_
  refine o_eff 0 _ rfl (by kernel_rfl) ?_
  refine e_box 24 _ (.agg #[.int .i64 a0.N, .slice A0z0 a0.Edges.length c0z0]) [.int .i64 a0.N, .slice A0z0 a0.Edges.length c0z0] rfl (by kernel_rfl) rfl hI ?_
  clear hI
  intro b2 _ hI
  refine o_batch 1 [] [.p, .p] [(4, .slice none 0 0), (5, .int .i64 0)] [] trivial trivial (by kernel_rfl) (by kernel_rfl) (by kernel_rfl) ?_
  refine r_out (by kernel_rfl) ?_
  refine go_seq ?_
  refine go_seq ?_
  refine r_in ?_
  refine o_batch 0 [(b2, 0, [.int .i64 a0.N, .slice A0z0 a0.Edges.length c0z0])] [.l 0 0] [(9, .agg #[.int .i64 a0.N, .slice A0z0 a0.Edges.length c0z0])] [] ⟨(hI.grp 0 rfl), trivial⟩ trivial (by kernel_rfl) (by kernel_rfl) (by kernel_rfl) ?_
  replace H := bind_some H
  obtain ⟨y8, hy9, H⟩ := H
  refine o_eff 1 _ rfl (by kernel_rfl) ?_
  refine e_callf _ _ _ 18 #[] #[] #[.agg #[.int .i64 a0.N, .slice A0z0 a0.Edges.length c0z0]] #[.agg #[.int .i64 a0.N, .slice A0z0 a0.Edges.length c0z0]] rfl (by kernel_rfl) (by kernel_rfl) (by kernel_rfl) (enter18 _) (graph_Check_calls a0 A0z0 c0z0 (memOf _) _ (Inv.start _) (hI.rd hr0z0) hl0z0 _ hy9) ?_
  rintro _ _ ⟨rfl, hI'⟩
  replace hI := hI.call0 hI'
  clear hI'
  refine ⟨_, rfl, ?_⟩
  refine o_batch 2 [] [.p] [(6, .int .i64 y8)] [] trivial trivial (by kernel_rfl) (by kernel_rfl) (by kernel_rfl) ?_
  refine r_out (by kernel_rfl) ?_
  refine go_seq ?_
  refine r_in ?_
  refine o_batch 0 [] [.p, .p] [(11, .int .i64 y8), (12, .bool (y8 != 0))] [] trivial trivial (by kernel_rfl) (by kernel_rfl) (by kernel_rfl) ?_
  refine r_out (by kernel_rfl) ?_
  replace H := cond_some H
  rcases H with ⟨hc10, H⟩ | ⟨hc10, H⟩
  · refine go_then' (t := (y8 != 0)) (by kernel_rfl) hc10 ?_
    refine go_seq ?_
    refine r_in ?_
    refine o_batch 0 [] [.p, .p, .p] [(13, .int .i64 y8), (4, .slice none 0 0), (5, .int .i64 y8)] [] trivial trivial (by kernel_rfl) (by kernel_rfl) (by kernel_rfl) ?_
    refine r_out (by kernel_rfl) ?_
    replace H := Option.some.inj H
    subst H
    exact go_return (.tuple #[.slice none 0 0, .int .i64 y8]) Tryd.func23 (by kernel_rfl) ⟨none, 0, rfl, (hI.nilrow (tInt .i64) 3).pick [1] (by decide) rfl⟩
  · refine go_else' (t := (y8 != 0)) (by kernel_rfl) hc10 ?_
    refine go_skip ?_
    refine go_seq_join (o := r) (fun l229 f w => ∃ (j : Nat → Value) (b228 : Nat) (A230 : Option Addr) (c231 : Nat) (A232 : Option Addr) (c233 : Nat) (A234 : Option Addr) (c235 : Nat) (A236 : Option Addr) (c237 : Nat), f = updL j [(2, .pointer (some ⟨b2, 0, none⟩)), (7, .pointer (some ⟨b228, 0, none⟩))] ∧ Inv M w [.blk b2 24 [.int .i64 a0.N, .slice A0z0 a0.Edges.length c0z0], .blk b228 65 [.slice A230 l229.length c231, .slice A232 ((List.replicate a0.N.toNat (default : Int)).length) c233, .slice A234 ((List.replicate a0.N.toNat (default : Int)).length) c235, .slice A236 ((List.replicate a0.N.toNat (default : Int)).length) c237, .slice none 0 0, .int .i64 0, .int .i64 0], .row (tInt .u64) 54 A230 l229.length c231 l229, .row (tInt .i64) 3 A232 ((List.replicate a0.N.toNat (default : Int)).length) c233 (List.replicate a0.N.toNat (default : Int)), .row (tInt .i64) 3 A234 ((List.replicate a0.N.toNat (default : Int)).length) c235 (List.replicate a0.N.toNat (default : Int)), .row (tInt .i64) 3 A236 ((List.replicate a0.N.toNat (default : Int)).length) c237 (List.replicate a0.N.toNat (default : Int))]) (fun l229 => graph_Parts.j1 a0 l229) ?_ (fun hJ238 => ?_)
    · clear H hI
      rintro l229 _ _ ⟨_, b228, A230, c231, A232, c233, A234, c235, A236, c237, rfl, hI⟩ H
      refine go_seq ?_
      refine go_seq ?_
      refine r_in ?_
      refine o_batch 0 [(b2, 0, [.int .i64 a0.N, .slice A0z0 a0.Edges.length c0z0])] [.p, .l 0 0, .p] [(28, .pointer (some ⟨b2, 0, none⟩)), (29, .int .i64 a0.N), (30, .int .i64 0)] [] ⟨(hI.grp 0 rfl), trivial⟩ trivial (by kernel_rfl) (by kernel_rfl) (by kernel_rfl) ?_
      refine r_out (by kernel_rfl) ?_
      refine go_block ?_
      refine go_iter (graph_Parts.s2 a0) (fun (l849, l852, l855, l858, l861, x864, x865, x866) f w => ∃ (j : Nat → Value) (A850 : Option Addr) (c851 : Nat) (A853 : Option Addr) (c854 : Nat) (A856 : Option Addr) (c857 : Nat) (A859 : Option Addr) (c860 : Nat) (A862 : Option Addr) (c863 : Nat), f = updL j [(7, .pointer (some ⟨b228, 0, none⟩)), (29, .int .i64 a0.N), (30, .int .i64 x866)] ∧ Inv M w [.blk b228 65 [.slice A850 l849.length c851, .slice A853 l852.length c854, .slice A856 l855.length c857, .slice A859 l858.length c860, .slice A862 l861.length c863, .int .i64 x864, .int .i64 x865], .row (tInt .u64) 54 A850 l849.length c851 l849, .row (tInt .i64) 3 A853 l852.length c854 l852, .row (tInt .i64) 3 A856 l855.length c857 l855, .row (tInt .i64) 3 A859 l858.length c860 l858, .row (tInt .i64) 3 A862 l861.length c863 l861]) H ⟨_, A230, c231, A232, c233, A234, c235, A236, c237, none, 0, at_slots _ (by kernel_rfl), (hI.nilrow (tInt .i64) 3).pick [1, 2, 3, 4, 5, 6] (by decide) rfl⟩ ?_
      clear H hI
      rintro ⟨l849, l852, l855, l858, l861, x864, x865, x866⟩ _ _ o1 H ⟨_, A850, c851, A853, c854, A856, c857, A859, c860, A862, c863, rfl, hI⟩ hin1 hout1
      refine go_seq ?_
      refine r_in ?_
      refine o_batch 0 [] [.p] [(31, .bool (decide (x866 < a0.N)))] [] trivial trivial (by kernel_rfl) (by kernel_rfl) (by kernel_rfl) ?_
      refine r_out (by kernel_rfl) ?_
      refine go_seq ?_
      replace H := cond_some H
      rcases H with ⟨hc868, H⟩ | ⟨hc868, H⟩
      · refine go_then' (t := decide (x866 < a0.N)) (by kernel_rfl) hc868 ?_
        refine go_skip ?_
        refine go_seq ?_
        refine go_block_join (o := o1) (fun (l926, l929, l932, l935, l938, x941, x942) f w => ∃ (j : Nat → Value) (A927 : Option Addr) (c928 : Nat) (A930 : Option Addr) (c931 : Nat) (A933 : Option Addr) (c934 : Nat) (A936 : Option Addr) (c937 : Nat) (A939 : Option Addr) (c940 : Nat), f = updL j [(7, .pointer (some ⟨b228, 0, none⟩)), (29, .int .i64 a0.N), (30, .int .i64 x866)] ∧ Inv M w [.blk b228 65 [.slice A927 l926.length c928, .slice A930 l929.length c931, .slice A933 l932.length c934, .slice A936 l935.length c937, .slice A939 l938.length c940, .int .i64 x941, .int .i64 x942], .row (tInt .u64) 54 A927 l926.length c928 l926, .row (tInt .i64) 3 A930 l929.length c931 l929, .row (tInt .i64) 3 A933 l932.length c934 l932, .row (tInt .i64) 3 A936 l935.length c937 l935, .row (tInt .i64) 3 A939 l938.length c940 l938]) (fun (l926, l929, l932, l935, l938, x941, x942) => graph_Parts.j3 x866 l926 l929 l932 l935 l938 x941 x942) ?_ (fun hJ943 => ?_)
        · clear H hI
          rintro ⟨l926, l929, l932, l935, l938, x941, x942⟩ _ _ ⟨_, A927, c928, A930, c931, A933, c934, A936, c937, A939, c940, rfl, hI⟩ H
          refine r_in ?_
          refine o_batch 0 [] [.p, .p] [(44, .int .i64 (w64 (x866 + 1))), (30, .int .i64 (w64 (x866 + 1)))] [] trivial trivial (by kernel_rfl) (by kernel_rfl) (by kernel_rfl) ?_
          refine r_out (by kernel_rfl) ?_
          exact hin1 _ (Option.some.inj H).symm _ _ ⟨_, A927, c928, A930, c931, A933, c934, A936, c937, A939, c940, at_slots _ (by kernel_rfl), hI⟩
        · refine go_seq ?_
          refine r_in ?_
          refine o_batch 0 [] [.p, .p] [(32, .int .i64 x866), (8, .int .i64 x866)] [] trivial trivial (by kernel_rfl) (by kernel_rfl) (by kernel_rfl) ?_
          refine r_out (by kernel_rfl) ?_
          refine go_seq ?_
          refine r_in ?_
          replace H := must_some H
          obtain ⟨g946, H⟩ := H
          obtain ⟨b947, rfl⟩ := hI.rowAt 2 rfl g946
          refine o_batch 0 [(b228, 0, [.slice A850 l849.length c851, .slice (some ⟨b947, 0, none⟩) l852.length c854, .slice A856 l855.length c857, .slice A859 l858.length c860, .slice A862 l861.length c863, .int .i64 x864, .int .i64 x865]), (b947, 0 + x866.toNat * 1, [.int .i64 (idx l852 x866)])] [.p, .p, .p, .l 0 1, .p, .x, .l 1 0, .p] [(33, .pointer (some ⟨b228, 0, none⟩)), (34, .pointer (some ⟨b228, 0, none⟩)), (35, .pointer (some ⟨b228, 1, none⟩)), (36, .slice (some ⟨b947, 0, none⟩) l852.length c854), (37, .int .i64 x866), (38, .pointer (some ⟨b947, 0 + x866.toNat * 1, none⟩)), (39, .int .i64 (idx l852 x866)), (40, .bool (idx l852 x866 == 0))] [(x866, l852.length)] ⟨(hI.grp 0 rfl), (rdS.flook (hI.row 2 rfl) (hI.rowlen 2 rfl) g946).ok, trivial⟩ ⟨g946, trivial⟩ (by kernel_rfl) (by kernel_rfl) (by kernel_rfl) ?_
          refine r_out (by kernel_rfl) ?_
          replace H := cond_some H
          rcases H with ⟨hc948, H⟩ | ⟨hc948, H⟩
          · refine go_then' (t := (idx l852 x866 == 0)) (by kernel_rfl) hc948 ?_
            refine r_in ?_
            refine o_batch 0 [] [.p, .p] [(41, .pointer (some ⟨b228, 0, none⟩)), (42, .int .i64 x866)] [] trivial trivial (by kernel_rfl) (by kernel_rfl) (by kernel_rfl) ?_
            replace H := bind_some H
            obtain ⟨y954, hy955, H⟩ := H
            obtain ⟨M949, hJ950, hs951, hro952, hback953⟩ := hI.call (R := [.blk b228 65 [.slice A850 l849.length c851, .slice (some ⟨b947, 0, none⟩) l852.length c854, .slice A856 l855.length c857, .slice A859 l858.length c860, .slice A862 l861.length c863, .int .i64 x864, .int .i64 x865], .row (tInt .u64) 54 A850 l849.length c851 l849, .row (tInt .i64) 3 (some ⟨b947, 0, none⟩) l852.length c854 l852, .row (tInt .i64) 3 A856 l855.length c857 l855, .row (tInt .i64) 3 A859 l858.length c860 l858, .row (tInt .i64) 3 A862 l861.length c863 l861]) (L0 := []) [0, 1, 2, 3, 4, 5] [] (by decide) rfl
            refine o_eff 2 _ rfl (by kernel_rfl) ?_
            refine e_callf _ _ _ 37 #[] #[] #[.pointer (some ⟨b228, 0, none⟩), .int .i64 x866] #[.pointer (some ⟨b228, 0, none⟩), .int .i64 x866] rfl (by kernel_rfl) (by kernel_rfl) (by kernel_rfl) (enter37 _) (graph_walk_down_calls b228 (⟨l849, l852, l855, l858, l861, x864, x865⟩ : GraphWalk) A850 c851 (some ⟨b947, 0, none⟩) c854 A856 c857 A859 c860 A862 c863 x866 M949 _ hJ950 (rdS.mono hT hs951) _ hy955) ?_
            rintro _ _ ⟨A956, c957, A958, c959, A960, c961, A962, c963, A964, c965, rfl, hI'⟩
            replace hI := hback953 _ _ hI'
            clear hI'
            refine ⟨_, rfl, ?_⟩
            refine r_out (by kernel_rfl) ?_
            refine go_inBlock ?_
            exact hJ943 (y954.steps, y954.num, y954.low, y954.part, y954.open_, y954.count, y954.parts) _ _ ⟨_, A956, c957, A958, c959, A960, c961, A962, c963, A964, c965, at_slots _ (by kernel_rfl), hI⟩ H
          · refine go_else' (t := (idx l852 x866 == 0)) (by kernel_rfl) hc948 ?_
            refine go_skip ?_
            refine go_inBlock ?_
            exact hJ943 (l849, l852, l855, l858, l861, x864, x865) _ _ ⟨_, A850, c851, (some ⟨b947, 0, none⟩), c854, A856, c857, A859, c860, A862, c863, at_slots _ (by kernel_rfl), hI⟩ H
      · refine go_else' (t := decide (x866 < a0.N)) (by kernel_rfl) hc868 ?_
        refine go_exit rfl ?_
        refine go_seq ?_
        refine r_in ?_
        refine o_batch 0 [(b228, 0, [.slice A850 l849.length c851, .slice A853 l852.length c854, .slice A856 l855.length c857, .slice A859 l858.length c860, .slice A862 l861.length c863, .int .i64 x864, .int .i64 x865])] [.p, .p, .p, .l 0 3] [(45, .pointer (some ⟨b228, 0, none⟩)), (46, .pointer (some ⟨b228, 0, none⟩)), (47, .pointer (some ⟨b228, 3, none⟩)), (48, .slice A859 l858.length c860)] [] ⟨(hI.grp 0 rfl), trivial⟩ trivial (by kernel_rfl) (by kernel_rfl) (by kernel_rfl) ?_
        replace H := bind_some H
        obtain ⟨y970, hy971, H⟩ := H
        refine o_eff 4 _ rfl (by kernel_rfl) ?_
        refine e_callf _ _ _ 38 #[] #[] #[.slice A859 l858.length c860] #[.slice A859 l858.length c860] rfl (by kernel_rfl) (by kernel_rfl) (by kernel_rfl) (enter38 _) (graph_renumbered_calls A859 c860 l858 (memOf _) _ (Inv.start _) (hI.row 4 rfl) (hI.rowle 4 rfl) _ hy971) ?_
        rintro _ _ ⟨A972, c973, rfl, hI'⟩
        replace hI := hI.call0 hI'
        clear hI'
        refine ⟨_, rfl, ?_⟩
        refine o_batch 5 [] [.p, .p] [(4, .slice A972 y970.length c973), (5, .int .i64 0)] [] trivial trivial (by kernel_rfl) (by kernel_rfl) (by kernel_rfl) ?_
        refine r_out (by kernel_rfl) ?_
        replace H := out_some H
        obtain ⟨_, H, he1⟩ := H
        have he := (hout1 _ he1).symm
        subst he
        replace H := Option.some.inj H
        subst H
        exact go_return (.tuple #[.slice A972 y970.length c973, .int .i64 0]) Tryd.func23 (by kernel_rfl) ⟨A972, c973, rfl, hI.pick [6] (by decide) rfl⟩
    · replace H := bind_some H
      obtain ⟨y974, hy975, H⟩ := H
      replace H := must_some H
      obtain ⟨g978, H⟩ := H
      refine go_held (fun w => Inv M w [.blk b2 24 [.int .i64 a0.N, .slice A0z0 a0.Edges.length c0z0]]) (by kernel_rfl) ?_
      replace hI := hI.drew'
      refine held_batch (n := 7) [(b2, 0, [.int .i64 a0.N, .slice A0z0 a0.Edges.length c0z0])] [(0, .l 0 0), (1, .p), (3, .p), (4, .l 0 0), (6, .p), (7, .l 0 0), (9, .p), (10, .l 0 0)] [(14, .agg #[.int .i64 a0.N, .slice A0z0 a0.Edges.length c0z0]), (15, .int .i64 a1), (17, .pointer (some ⟨b2, 0, none⟩)), (18, .int .i64 a0.N), (20, .pointer (some ⟨b2, 0, none⟩)), (21, .int .i64 a0.N), (23, .pointer (some ⟨b2, 0, none⟩)), (24, .int .i64 a0.N)] [] [true, true, false, true, true, false, true, true, false, true, true, false, false, false, false] (by kernel_rfl) (fun w hS => ⟨(hS.grp 0 rfl), trivial⟩) hI trivial (by kernel_rfl) (by kernel_rfl) (by kernel_rfl) ?_
      refine held_each (n := 6) [2, 5, 8, 11] (by simp) (by kernel_rfl) ⟨⟨_, rfl, by kernel_rfl, ?_⟩, ⟨_, rfl, by kernel_rfl, ?_⟩, ⟨_, rfl, by kernel_rfl, ?_⟩, ⟨_, rfl, by kernel_rfl, ?_⟩, trivial⟩
      · refine (e_callf _ _ _ 32 #[] #[] #[.agg #[.int .i64 a0.N, .slice A0z0 a0.Edges.length c0z0], .int .i64 a1] #[.agg #[.int .i64 a0.N, .slice A0z0 a0.Edges.length c0z0], .int .i64 a1] rfl (by kernel_rfl) (by kernel_rfl) (by kernel_rfl) (enter32 _) (graph_rows_calls a0 A0z0 c0z0 a1 (memOf _) _ (Inv.start _) (hI.rd hr0z0) hl0z0 _ hy975) ?_)
        rintro _ _ ⟨A988, c989, rfl, hI'⟩
        replace hI := hI.call0 hI'
        clear hI'
        refine ⟨_, rfl, ?_⟩
        refine ⟨(hI.pick [0] (by decide) rfl), ?_⟩
        refine held_each (n := 5) [5, 8, 11] (by simp) (by kernel_rfl) ⟨⟨_, rfl, by kernel_rfl, ?_⟩, ⟨_, rfl, by kernel_rfl, ?_⟩, ⟨_, rfl, by kernel_rfl, ?_⟩, trivial⟩
        · refine (e_make (tInt .i64) (default : Int) 43 3 _ _ _ (.int .i64 0) a0.N rfl rfl rfl rfl rfl rfl (fun _ => rfl) (by kernel_rfl) (by kernel_rfl) g978 hI ?_)
          clear hI
          intro b993 _ hI
          refine ⟨(hI.pick [0] (by decide) rfl), ?_⟩
          refine held_each (n := 4) [8, 11] (by simp) (by kernel_rfl) ⟨⟨_, rfl, by kernel_rfl, ?_⟩, ⟨_, rfl, by kernel_rfl, ?_⟩, trivial⟩
          · refine (e_make (tInt .i64) (default : Int) 43 3 _ _ _ (.int .i64 0) a0.N rfl rfl rfl rfl rfl rfl (fun _ => rfl) (by kernel_rfl) (by kernel_rfl) g978 hI ?_)
            clear hI
            intro b996 _ hI
            refine ⟨(hI.pick [0] (by decide) rfl), ?_⟩
            refine held_one (n := 3) 11 _ rfl (by kernel_rfl) (by kernel_rfl) (e_make (tInt .i64) (default : Int) 43 3 _ _ _ (.int .i64 0) a0.N rfl rfl rfl rfl rfl rfl (fun _ => rfl) (by kernel_rfl) (by kernel_rfl) g978 hI ?_)
            clear hI
            intro b998 _ hI
            refine ⟨(hI.pick [0] (by decide) rfl), ?_⟩
            refine held_batch (n := 2) [] [(12, .p)] [(26, .agg #[.slice A988 y974.length c989, .slice (some ⟨b993, 0, none⟩) a0.N.toNat a0.N.toNat, .slice (some ⟨b996, 0, none⟩) a0.N.toNat a0.N.toNat, .slice (some ⟨b998, 0, none⟩) a0.N.toNat a0.N.toNat, .slice none 0 0, .int .i64 0, .int .i64 0])] [] [true, true, true, true, true, true, true, true, true, true, true, true, true, false, false] (by kernel_rfl) (fun w hS => trivial) (hI.pick [0] (by decide) rfl) trivial (by kernel_rfl) (by kernel_rfl) (by kernel_rfl) ?_
            refine held_one (n := 1) 13 _ rfl (by kernel_rfl) (by kernel_rfl) (e_box 65 _ (.agg #[.slice A988 y974.length c989, .slice (some ⟨b993, 0, none⟩) a0.N.toNat a0.N.toNat, .slice (some ⟨b996, 0, none⟩) a0.N.toNat a0.N.toNat, .slice (some ⟨b998, 0, none⟩) a0.N.toNat a0.N.toNat, .slice none 0 0, .int .i64 0, .int .i64 0]) [.slice A988 y974.length c989, .slice (some ⟨b993, 0, none⟩) a0.N.toNat a0.N.toNat, .slice (some ⟨b996, 0, none⟩) a0.N.toNat a0.N.toNat, .slice (some ⟨b998, 0, none⟩) a0.N.toNat a0.N.toNat, .slice none 0 0, .int .i64 0, .int .i64 0] rfl (by kernel_rfl) rfl hI ?_)
            clear hI
            intro b1000 _ hI
            refine ⟨(hI.pick [0] (by decide) rfl), ?_⟩
            refine held_batch (n := 0) [] [(14, .p)] [(7, .pointer (some ⟨b1000, 0, none⟩))] [] [true, true, true, true, true, true, true, true, true, true, true, true, true, true, true] (by kernel_rfl) (fun w hS => trivial) (hI.pick [0] (by decide) rfl) trivial (by kernel_rfl) (by kernel_rfl) (by kernel_rfl) ?_
            refine held_done (by kernel_rfl) ?_
            replace hI := hI.renum 2 rfl
            replace hI := hI.renum 3 rfl
            replace hI := hI.renum 4 rfl
            replace hI := hI.recell 5 [.slice A988 y974.length c989, .slice (some ⟨b993, 0, none⟩) ((List.replicate a0.N.toNat (default : Int)).length) a0.N.toNat, .slice (some ⟨b996, 0, none⟩) ((List.replicate a0.N.toNat (default : Int)).length) a0.N.toNat, .slice (some ⟨b998, 0, none⟩) ((List.replicate a0.N.toNat (default : Int)).length) a0.N.toNat, .slice none 0 0, .int .i64 0, .int .i64 0] (by first | rfl | simp only [List.length_set, List.length_replicate, List.length_nil]) rfl
            exact hJ238 y974 _ _ ⟨_, b1000, A988, c989, (some ⟨b993, 0, none⟩), a0.N.toNat, (some ⟨b996, 0, none⟩), a0.N.toNat, (some ⟨b998, 0, none⟩), a0.N.toNat, at_slots _ (by kernel_rfl), hI.pick [0, 5, 1, 2, 3, 4] (by decide) rfl⟩ H
          · refine (e_make (tInt .i64) (default : Int) 43 3 _ _ _ (.int .i64 0) a0.N rfl rfl rfl rfl rfl rfl (fun _ => rfl) (by kernel_rfl) (by kernel_rfl) g978 hI ?_)
            clear hI
            intro b1001 _ hI
            refine ⟨(hI.pick [0] (by decide) rfl), ?_⟩
            refine held_one (n := 3) 8 _ rfl (by kernel_rfl) (by kernel_rfl) (e_make (tInt .i64) (default : Int) 43 3 _ _ _ (.int .i64 0) a0.N rfl rfl rfl rfl rfl rfl (fun _ => rfl) (by kernel_rfl) (by kernel_rfl) g978 hI ?_)
            clear hI
            intro b1003 _ hI
            refine ⟨(hI.pick [0] (by decide) rfl), ?_⟩
            refine held_batch (n := 2) [] [(12, .p)] [(26, .agg #[.slice A988 y974.length c989, .slice (some ⟨b993, 0, none⟩) a0.N.toNat a0.N.toNat, .slice (some ⟨b1003, 0, none⟩) a0.N.toNat a0.N.toNat, .slice (some ⟨b1001, 0, none⟩) a0.N.toNat a0.N.toNat, .slice none 0 0, .int .i64 0, .int .i64 0])] [] [true, true, true, true, true, true, true, true, true, true, true, true, true, false, false] (by kernel_rfl) (fun w hS => trivial) (hI.pick [0] (by decide) rfl) trivial (by kernel_rfl) (by kernel_rfl) (by kernel_rfl) ?_
            refine held_one (n := 1) 13 _ rfl (by kernel_rfl) (by kernel_rfl) (e_box 65 _ (.agg #[.slice A988 y974.length c989, .slice (some ⟨b993, 0, none⟩) a0.N.toNat a0.N.toNat, .slice (some ⟨b1003, 0, none⟩) a0.N.toNat a0.N.toNat, .slice (some ⟨b1001, 0, none⟩) a0.N.toNat a0.N.toNat, .slice none 0 0, .int .i64 0, .int .i64 0]) [.slice A988 y974.length c989, .slice (some ⟨b993, 0, none⟩) a0.N.toNat a0.N.toNat, .slice (some ⟨b1003, 0, none⟩) a0.N.toNat a0.N.toNat, .slice (some ⟨b1001, 0, none⟩) a0.N.toNat a0.N.toNat, .slice none 0 0, .int .i64 0, .int .i64 0] rfl (by kernel_rfl) rfl hI ?_)
            clear hI
            intro b1005 _ hI
            refine ⟨(hI.pick [0] (by decide) rfl), ?_⟩
            refine held_batch (n := 0) [] [(14, .p)] [(7, .pointer (some ⟨b1005, 0, none⟩))] [] [true, true, true, true, true, true, true, true, true, true, true, true, true, true, true] (by kernel_rfl) (fun w hS => trivial) (hI.pick [0] (by decide) rfl) trivial (by kernel_rfl) (by kernel_rfl) (by kernel_rfl) ?_
            refine held_done (by kernel_rfl) ?_
            replace hI := hI.renum 2 rfl
            replace hI := hI.renum 3 rfl
            replace hI := hI.renum 4 rfl
            replace hI := hI.recell 5 [.slice A988 y974.length c989, .slice (some ⟨b993, 0, none⟩) ((List.replicate a0.N.toNat (default : Int)).length) a0.N.toNat, .slice (some ⟨b1003, 0, none⟩) ((List.replicate a0.N.toNat (default : Int)).length) a0.N.toNat, .slice (some ⟨b1001, 0, none⟩) ((List.replicate a0.N.toNat (default : Int)).length) a0.N.toNat, .slice none 0 0, .int .i64 0, .int .i64 0] (by first | rfl | simp only [List.length_set, List.length_replicate, List.length_nil]) rfl
            exact hJ238 y974 _ _ ⟨_, b1005, A988, c989, (some ⟨b993, 0, none⟩), a0.N.toNat, (some ⟨b1003, 0, none⟩), a0.N.toNat, (some ⟨b1001, 0, none⟩), a0.N.toNat, at_slots _ (by kernel_rfl), hI.pick [0, 5, 1, 2, 4, 3] (by decide) rfl⟩ H
        · refine (e_make (tInt .i64) (default : Int) 43 3 _ _ _ (.int .i64 0) a0.N rfl rfl rfl rfl rfl rfl (fun _ => rfl) (by kernel_rfl) (by kernel_rfl) g978 hI ?_)
          clear hI
          intro b1006 _ hI
          refine ⟨(hI.pick [0] (by decide) rfl), ?_⟩
          refine held_each (n := 4) [5, 11] (by simp) (by kernel_rfl) ⟨⟨_, rfl, by kernel_rfl, ?_⟩, ⟨_, rfl, by kernel_rfl, ?_⟩, trivial⟩
          · refine (e_make (tInt .i64) (default : Int) 43 3 _ _ _ (.int .i64 0) a0.N rfl rfl rfl rfl rfl rfl (fun _ => rfl) (by kernel_rfl) (by kernel_rfl) g978 hI ?_)
            clear hI
            intro b1009 _ hI
            refine ⟨(hI.pick [0] (by decide) rfl), ?_⟩
            refine held_one (n := 3) 11 _ rfl (by kernel_rfl) (by kernel_rfl) (e_make (tInt .i64) (default : Int) 43 3 _ _ _ (.int .i64 0) a0.N rfl rfl rfl rfl rfl rfl (fun _ => rfl) (by kernel_rfl) (by kernel_rfl) g978 hI ?_)
            clear hI
            intro b1011 _ hI
            refine ⟨(hI.pick [0] (by decide) rfl), ?_⟩
            refine held_batch (n := 2) [] [(12, .p)] [(26, .agg #[.slice A988 y974.length c989, .slice (some ⟨b1009, 0, none⟩) a0.N.toNat a0.N.toNat, .slice (some ⟨b1006, 0, none⟩) a0.N.toNat a0.N.toNat, .slice (some ⟨b1011, 0, none⟩) a0.N.toNat a0.N.toNat, .slice none 0 0, .int .i64 0, .int .i64 0])] [] [true, true, true, true, true, true, true, true, true, true, true, true, true, false, false] (by kernel_rfl) (fun w hS => trivial) (hI.pick [0] (by decide) rfl) trivial (by kernel_rfl) (by kernel_rfl) (by kernel_rfl) ?_
            refine held_one (n := 1) 13 _ rfl (by kernel_rfl) (by kernel_rfl) (e_box 65 _ (.agg #[.slice A988 y974.length c989, .slice (some ⟨b1009, 0, none⟩) a0.N.toNat a0.N.toNat, .slice (some ⟨b1006, 0, none⟩) a0.N.toNat a0.N.toNat, .slice (some ⟨b1011, 0, none⟩) a0.N.toNat a0.N.toNat, .slice none 0 0, .int .i64 0, .int .i64 0]) [.slice A988 y974.length c989, .slice (some ⟨b1009, 0, none⟩) a0.N.toNat a0.N.toNat, .slice (some ⟨b1006, 0, none⟩) a0.N.toNat a0.N.toNat, .slice (some ⟨b1011, 0, none⟩) a0.N.toNat a0.N.toNat, .slice none 0 0, .int .i64 0, .int .i64 0] rfl (by kernel_rfl) rfl hI ?_)
            clear hI
            intro b1013 _ hI
            refine ⟨(hI.pick [0] (by decide) rfl), ?_⟩
            refine held_batch (n := 0) [] [(14, .p)] [(7, .pointer (some ⟨b1013, 0, none⟩))] [] [true, true, true, true, true, true, true, true, true, true, true, true, true, true, true] (by kernel_rfl) (fun w hS => trivial) (hI.pick [0] (by decide) rfl) trivial (by kernel_rfl) (by kernel_rfl) (by kernel_rfl) ?_
            refine held_done (by kernel_rfl) ?_
            replace hI := hI.renum 2 rfl
            replace hI := hI.renum 3 rfl
            replace hI := hI.renum 4 rfl
            replace hI := hI.recell 5 [.slice A988 y974.length c989, .slice (some ⟨b1009, 0, none⟩) ((List.replicate a0.N.toNat (default : Int)).length) a0.N.toNat, .slice (some ⟨b1006, 0, none⟩) ((List.replicate a0.N.toNat (default : Int)).length) a0.N.toNat, .slice (some ⟨b1011, 0, none⟩) ((List.replicate a0.N.toNat (default : Int)).length) a0.N.toNat, .slice none 0 0, .int .i64 0, .int .i64 0] (by first | rfl | simp only [List.length_set, List.length_replicate, List.length_nil]) rfl
            exact hJ238 y974 _ _ ⟨_, b1013, A988, c989, (some ⟨b1009, 0, none⟩), a0.N.toNat, (some ⟨b1006, 0, none⟩), a0.N.toNat, (some ⟨b1011, 0, none⟩), a0.N.toNat, at_slots _ (by kernel_rfl), hI.pick [0, 5, 1, 3, 2, 4] (by decide) rfl⟩ H
          · refine (e_make (tInt .i64) (default : Int) 43 3 _ _ _ (.int .i64 0) a0.N rfl rfl rfl rfl rfl rfl (fun _ => rfl) (by kernel_rfl) (by kernel_rfl) g978 hI ?_)
            clear hI
            intro b1014 _ hI
            refine ⟨(hI.pick [0] (by decide) rfl), ?_⟩
            refine held_one (n := 3) 5 _ rfl (by kernel_rfl) (by kernel_rfl) (e_make (tInt .i64) (default : Int) 43 3 _ _ _ (.int .i64 0) a0.N rfl rfl rfl rfl rfl rfl (fun _ => rfl) (by kernel_rfl) (by kernel_rfl) g978 hI ?_)
            clear hI
            intro b1016 _ hI
            refine ⟨(hI.pick [0] (by decide) rfl), ?_⟩
            refine held_batch (n := 2) [] [(12, .p)] [(26, .agg #[.slice A988 y974.length c989, .slice (some ⟨b1016, 0, none⟩) a0.N.toNat a0.N.toNat, .slice (some ⟨b1006, 0, none⟩) a0.N.toNat a0.N.toNat, .slice (some ⟨b1014, 0, none⟩) a0.N.toNat a0.N.toNat, .slice none 0 0, .int .i64 0, .int .i64 0])] [] [true, true, true, true, true, true, true, true, true, true, true, true, true, false, false] (by kernel_rfl) (fun w hS => trivial) (hI.pick [0] (by decide) rfl) trivial (by kernel_rfl) (by kernel_rfl) (by kernel_rfl) ?_
            refine held_one (n := 1) 13 _ rfl (by kernel_rfl) (by kernel_rfl) (e_box 65 _ (.agg #[.slice A988 y974.length c989, .slice (some ⟨b1016, 0, none⟩) a0.N.toNat a0.N.toNat, .slice (some ⟨b1006, 0, none⟩) a0.N.toNat a0.N.toNat, .slice (some ⟨b1014, 0, none⟩) a0.N.toNat a0.N.toNat, .slice none 0 0, .int .i64 0, .int .i64 0]) [.slice A988 y974.length c989, .slice (some ⟨b1016, 0, none⟩) a0.N.toNat a0.N.toNat, .slice (some ⟨b1006, 0, none⟩) a0.N.toNat a0.N.toNat, .slice (some ⟨b1014, 0, none⟩) a0.N.toNat a0.N.toNat, .slice none 0 0, .int .i64 0, .int .i64 0] rfl (by kernel_rfl) rfl hI ?_)
            clear hI
            intro b1018 _ hI
            refine ⟨(hI.pick [0] (by decide) rfl), ?_⟩
            refine held_batch (n := 0) [] [(14, .p)] [(7, .pointer (some ⟨b1018, 0, none⟩))] [] [true, true, true, true, true, true, true, true, true, true, true, true, true, true, true] (by kernel_rfl) (fun w hS => trivial) (hI.pick [0] (by decide) rfl) trivial (by kernel_rfl) (by kernel_rfl) (by kernel_rfl) ?_
            refine held_done (by kernel_rfl) ?_
            replace hI := hI.renum 2 rfl
            replace hI := hI.renum 3 rfl
            replace hI := hI.renum 4 rfl
            replace hI := hI.recell 5 [.slice A988 y974.length c989, .slice (some ⟨b1016, 0, none⟩) ((List.replicate a0.N.toNat (default : Int)).length) a0.N.toNat, .slice (some ⟨b1006, 0, none⟩) ((List.replicate a0.N.toNat (default : Int)).length) a0.N.toNat, .slice (some ⟨b1014, 0, none⟩) ((List.replicate a0.N.toNat (default : Int)).length) a0.N.toNat, .slice none 0 0, .int .i64 0, .int .i64 0] (by first | rfl | simp only [List.length_set, List.length_replicate, List.length_nil]) rfl
            exact hJ238 y974 _ _ ⟨_, b1018, A988, c989, (some ⟨b1016, 0, none⟩), a0.N.toNat, (some ⟨b1006, 0, none⟩), a0.N.toNat, (some ⟨b1014, 0, none⟩), a0.N.toNat, at_slots _ (by kernel_rfl), hI.pick [0, 5, 1, 4, 2, 3] (by decide) rfl⟩ H
        · refine (e_make (tInt .i64) (default : Int) 43 3 _ _ _ (.int .i64 0) a0.N rfl rfl rfl rfl rfl rfl (fun _ => rfl) (by kernel_rfl) (by kernel_rfl) g978 hI ?_)
          clear hI
          intro b1019 _ hI
          refine ⟨(hI.pick [0] (by decide) rfl), ?_⟩
          refine held_each (n := 4) [5, 8] (by simp) (by kernel_rfl) ⟨⟨_, rfl, by kernel_rfl, ?_⟩, ⟨_, rfl, by kernel_rfl, ?_⟩, trivial⟩
          · refine (e_make (tInt .i64) (default : Int) 43 3 _ _ _ (.int .i64 0) a0.N rfl rfl rfl rfl rfl rfl (fun _ => rfl) (by kernel_rfl) (by kernel_rfl) g978 hI ?_)
            clear hI
            intro b1022 _ hI
            refine ⟨(hI.pick [0] (by decide) rfl), ?_⟩
            refine held_one (n := 3) 8 _ rfl (by kernel_rfl) (by kernel_rfl) (e_make (tInt .i64) (default : Int) 43 3 _ _ _ (.int .i64 0) a0.N rfl rfl rfl rfl rfl rfl (fun _ => rfl) (by kernel_rfl) (by kernel_rfl) g978 hI ?_)
            clear hI
            intro b1024 _ hI
            refine ⟨(hI.pick [0] (by decide) rfl), ?_⟩
            refine held_batch (n := 2) [] [(12, .p)] [(26, .agg #[.slice A988 y974.length c989, .slice (some ⟨b1022, 0, none⟩) a0.N.toNat a0.N.toNat, .slice (some ⟨b1024, 0, none⟩) a0.N.toNat a0.N.toNat, .slice (some ⟨b1019, 0, none⟩) a0.N.toNat a0.N.toNat, .slice none 0 0, .int .i64 0, .int .i64 0])] [] [true, true, true, true, true, true, true, true, true, true, true, true, true, false, false] (by kernel_rfl) (fun w hS => trivial) (hI.pick [0] (by decide) rfl) trivial (by kernel_rfl) (by kernel_rfl) (by kernel_rfl) ?_
            refine held_one (n := 1) 13 _ rfl (by kernel_rfl) (by kernel_rfl) (e_box 65 _ (.agg #[.slice A988 y974.length c989, .slice (some ⟨b1022, 0, none⟩) a0.N.toNat a0.N.toNat, .slice (some ⟨b1024, 0, none⟩) a0.N.toNat a0.N.toNat, .slice (some ⟨b1019, 0, none⟩) a0.N.toNat a0.N.toNat, .slice none 0 0, .int .i64 0, .int .i64 0]) [.slice A988 y974.length c989, .slice (some ⟨b1022, 0, none⟩) a0.N.toNat a0.N.toNat, .slice (some ⟨b1024, 0, none⟩) a0.N.toNat a0.N.toNat, .slice (some ⟨b1019, 0, none⟩) a0.N.toNat a0.N.toNat, .slice none 0 0, .int .i64 0, .int .i64 0] rfl (by kernel_rfl) rfl hI ?_)
            clear hI
            intro b1026 _ hI
            refine ⟨(hI.pick [0] (by decide) rfl), ?_⟩
            refine held_batch (n := 0) [] [(14, .p)] [(7, .pointer (some ⟨b1026, 0, none⟩))] [] [true, true, true, true, true, true, true, true, true, true, true, true, true, true, true] (by kernel_rfl) (fun w hS => trivial) (hI.pick [0] (by decide) rfl) trivial (by kernel_rfl) (by kernel_rfl) (by kernel_rfl) ?_
            refine held_done (by kernel_rfl) ?_
            replace hI := hI.renum 2 rfl
            replace hI := hI.renum 3 rfl
            replace hI := hI.renum 4 rfl
            replace hI := hI.recell 5 [.slice A988 y974.length c989, .slice (some ⟨b1022, 0, none⟩) ((List.replicate a0.N.toNat (default : Int)).length) a0.N.toNat, .slice (some ⟨b1024, 0, none⟩) ((List.replicate a0.N.toNat (default : Int)).length) a0.N.toNat, .slice (some ⟨b1019, 0, none⟩) ((List.replicate a0.N.toNat (default : Int)).length) a0.N.toNat, .slice none 0 0, .int .i64 0, .int .i64 0] (by first | rfl | simp only [List.length_set, List.length_replicate, List.length_nil]) rfl
            exact hJ238 y974 _ _ ⟨_, b1026, A988, c989, (some ⟨b1022, 0, none⟩), a0.N.toNat, (some ⟨b1024, 0, none⟩), a0.N.toNat, (some ⟨b1019, 0, none⟩), a0.N.toNat, at_slots _ (by kernel_rfl), hI.pick [0, 5, 1, 3, 4, 2] (by decide) rfl⟩ H
          · refine (e_make (tInt .i64) (default : Int) 43 3 _ _ _ (.int .i64 0) a0.N rfl rfl rfl rfl rfl rfl (fun _ => rfl) (by kernel_rfl) (by kernel_rfl) g978 hI ?_)
            clear hI
            intro b1027 _ hI
            refine ⟨(hI.pick [0] (by decide) rfl), ?_⟩
            refine held_one (n := 3) 5 _ rfl (by kernel_rfl) (by kernel_rfl) (e_make (tInt .i64) (default : Int) 43 3 _ _ _ (.int .i64 0) a0.N rfl rfl rfl rfl rfl rfl (fun _ => rfl) (by kernel_rfl) (by kernel_rfl) g978 hI ?_)
            clear hI
            intro b1029 _ hI
            refine ⟨(hI.pick [0] (by decide) rfl), ?_⟩
            refine held_batch (n := 2) [] [(12, .p)] [(26, .agg #[.slice A988 y974.length c989, .slice (some ⟨b1029, 0, none⟩) a0.N.toNat a0.N.toNat, .slice (some ⟨b1027, 0, none⟩) a0.N.toNat a0.N.toNat, .slice (some ⟨b1019, 0, none⟩) a0.N.toNat a0.N.toNat, .slice none 0 0, .int .i64 0, .int .i64 0])] [] [true, true, true, true, true, true, true, true, true, true, true, true, true, false, false] (by kernel_rfl) (fun w hS => trivial) (hI.pick [0] (by decide) rfl) trivial (by kernel_rfl) (by kernel_rfl) (by kernel_rfl) ?_
            refine held_one (n := 1) 13 _ rfl (by kernel_rfl) (by kernel_rfl) (e_box 65 _ (.agg #[.slice A988 y974.length c989, .slice (some ⟨b1029, 0, none⟩) a0.N.toNat a0.N.toNat, .slice (some ⟨b1027, 0, none⟩) a0.N.toNat a0.N.toNat, .slice (some ⟨b1019, 0, none⟩) a0.N.toNat a0.N.toNat, .slice none 0 0, .int .i64 0, .int .i64 0]) [.slice A988 y974.length c989, .slice (some ⟨b1029, 0, none⟩) a0.N.toNat a0.N.toNat, .slice (some ⟨b1027, 0, none⟩) a0.N.toNat a0.N.toNat, .slice (some ⟨b1019, 0, none⟩) a0.N.toNat a0.N.toNat, .slice none 0 0, .int .i64 0, .int .i64 0] rfl (by kernel_rfl) rfl hI ?_)
            clear hI
            intro b1031 _ hI
            refine ⟨(hI.pick [0] (by decide) rfl), ?_⟩
            refine held_batch (n := 0) [] [(14, .p)] [(7, .pointer (some ⟨b1031, 0, none⟩))] [] [true, true, true, true, true, true, true, true, true, true, true, true, true, true, true] (by kernel_rfl) (fun w hS => trivial) (hI.pick [0] (by decide) rfl) trivial (by kernel_rfl) (by kernel_rfl) (by kernel_rfl) ?_
            refine held_done (by kernel_rfl) ?_
            replace hI := hI.renum 2 rfl
            replace hI := hI.renum 3 rfl
            replace hI := hI.renum 4 rfl
            replace hI := hI.recell 5 [.slice A988 y974.length c989, .slice (some ⟨b1029, 0, none⟩) ((List.replicate a0.N.toNat (default : Int)).length) a0.N.toNat, .slice (some ⟨b1027, 0, none⟩) ((List.replicate a0.N.toNat (default : Int)).length) a0.N.toNat, .slice (some ⟨b1019, 0, none⟩) ((List.replicate a0.N.toNat (default : Int)).length) a0.N.toNat, .slice none 0 0, .int .i64 0, .int .i64 0] (by first | rfl | simp only [List.length_set, List.length_replicate, List.length_nil]) rfl
            exact hJ238 y974 _ _ ⟨_, b1031, A988, c989, (some ⟨b1029, 0, none⟩), a0.N.toNat, (some ⟨b1027, 0, none⟩), a0.N.toNat, (some ⟨b1019, 0, none⟩), a0.N.toNat, at_slots _ (by kernel_rfl), hI.pick [0, 5, 1, 4, 3, 2] (by decide) rfl⟩ H
      · refine (e_make (tInt .i64) (default : Int) 43 3 _ _ _ (.int .i64 0) a0.N rfl rfl rfl rfl rfl rfl (fun _ => rfl) (by kernel_rfl) (by kernel_rfl) g978 hI ?_)
        clear hI
        intro b1032 _ hI
        refine ⟨(hI.pick [0] (by decide) rfl), ?_⟩
        refine held_each (n := 5) [2, 8, 11] (by simp) (by kernel_rfl) ⟨⟨_, rfl, by kernel_rfl, ?_⟩, ⟨_, rfl, by kernel_rfl, ?_⟩, ⟨_, rfl, by kernel_rfl, ?_⟩, trivial⟩
        · refine (e_callf _ _ _ 32 #[] #[] #[.agg #[.int .i64 a0.N, .slice A0z0 a0.Edges.length c0z0], .int .i64 a1] #[.agg #[.int .i64 a0.N, .slice A0z0 a0.Edges.length c0z0], .int .i64 a1] rfl (by kernel_rfl) (by kernel_rfl) (by kernel_rfl) (enter32 _) (graph_rows_calls a0 A0z0 c0z0 a1 (memOf _) _ (Inv.start _) (hI.rd hr0z0) hl0z0 _ hy975) ?_)
          rintro _ _ ⟨A1037, c1038, rfl, hI'⟩
          replace hI := hI.call0 hI'
          clear hI'
          refine ⟨_, rfl, ?_⟩
          refine ⟨(hI.pick [0] (by decide) rfl), ?_⟩
          refine held_each (n := 4) [8, 11] (by simp) (by kernel_rfl) ⟨⟨_, rfl, by kernel_rfl, ?_⟩, ⟨_, rfl, by kernel_rfl, ?_⟩, trivial⟩
          · refine (e_make (tInt .i64) (default : Int) 43 3 _ _ _ (.int .i64 0) a0.N rfl rfl rfl rfl rfl rfl (fun _ => rfl) (by kernel_rfl) (by kernel_rfl) g978 hI ?_)
            clear hI
            intro b1041 _ hI
            refine ⟨(hI.pick [0] (by decide) rfl), ?_⟩
            refine held_one (n := 3) 11 _ rfl (by kernel_rfl) (by kernel_rfl) (e_make (tInt .i64) (default : Int) 43 3 _ _ _ (.int .i64 0) a0.N rfl rfl rfl rfl rfl rfl (fun _ => rfl) (by kernel_rfl) (by kernel_rfl) g978 hI ?_)
            clear hI
            intro b1043 _ hI
            refine ⟨(hI.pick [0] (by decide) rfl), ?_⟩
            refine held_batch (n := 2) [] [(12, .p)] [(26, .agg #[.slice A1037 y974.length c1038, .slice (some ⟨b1032, 0, none⟩) a0.N.toNat a0.N.toNat, .slice (some ⟨b1041, 0, none⟩) a0.N.toNat a0.N.toNat, .slice (some ⟨b1043, 0, none⟩) a0.N.toNat a0.N.toNat, .slice none 0 0, .int .i64 0, .int .i64 0])] [] [true, true, true, true, true, true, true, true, true, true, true, true, true, false, false] (by kernel_rfl) (fun w hS => trivial) (hI.pick [0] (by decide) rfl) trivial (by kernel_rfl) (by kernel_rfl) (by kernel_rfl) ?_
            refine held_one (n := 1) 13 _ rfl (by kernel_rfl) (by kernel_rfl) (e_box 65 _ (.agg #[.slice A1037 y974.length c1038, .slice (some ⟨b1032, 0, none⟩) a0.N.toNat a0.N.toNat, .slice (some ⟨b1041, 0, none⟩) a0.N.toNat a0.N.toNat, .slice (some ⟨b1043, 0, none⟩) a0.N.toNat a0.N.toNat, .slice none 0 0, .int .i64 0, .int .i64 0]) [.slice A1037 y974.length c1038, .slice (some ⟨b1032, 0, none⟩) a0.N.toNat a0.N.toNat, .slice (some ⟨b1041, 0, none⟩) a0.N.toNat a0.N.toNat, .slice (some ⟨b1043, 0, none⟩) a0.N.toNat a0.N.toNat, .slice none 0 0, .int .i64 0, .int .i64 0] rfl (by kernel_rfl) rfl hI ?_)
            clear hI
            intro b1045 _ hI
            refine ⟨(hI.pick [0] (by decide) rfl), ?_⟩
            refine held_batch (n := 0) [] [(14, .p)] [(7, .pointer (some ⟨b1045, 0, none⟩))] [] [true, true, true, true, true, true, true, true, true, true, true, true, true, true, true] (by kernel_rfl) (fun w hS => trivial) (hI.pick [0] (by decide) rfl) trivial (by kernel_rfl) (by kernel_rfl) (by kernel_rfl) ?_
            refine held_done (by kernel_rfl) ?_
            replace hI := hI.renum 1 rfl
            replace hI := hI.renum 3 rfl
            replace hI := hI.renum 4 rfl
            replace hI := hI.recell 5 [.slice A1037 y974.length c1038, .slice (some ⟨b1032, 0, none⟩) ((List.replicate a0.N.toNat (default : Int)).length) a0.N.toNat, .slice (some ⟨b1041, 0, none⟩) ((List.replicate a0.N.toNat (default : Int)).length) a0.N.toNat, .slice (some ⟨b1043, 0, none⟩) ((List.replicate a0.N.toNat (default : Int)).length) a0.N.toNat, .slice none 0 0, .int .i64 0, .int .i64 0] (by first | rfl | simp only [List.length_set, List.length_replicate, List.length_nil]) rfl
            exact hJ238 y974 _ _ ⟨_, b1045, A1037, c1038, (some ⟨b1032, 0, none⟩), a0.N.toNat, (some ⟨b1041, 0, none⟩), a0.N.toNat, (some ⟨b1043, 0, none⟩), a0.N.toNat, at_slots _ (by kernel_rfl), hI.pick [0, 5, 2, 1, 3, 4] (by decide) rfl⟩ H
          · refine (e_make (tInt .i64) (default : Int) 43 3 _ _ _ (.int .i64 0) a0.N rfl rfl rfl rfl rfl rfl (fun _ => rfl) (by kernel_rfl) (by kernel_rfl) g978 hI ?_)
            clear hI
            intro b1046 _ hI
            refine ⟨(hI.pick [0] (by decide) rfl), ?_⟩
            refine held_one (n := 3) 8 _ rfl (by kernel_rfl) (by kernel_rfl) (e_make (tInt .i64) (default : Int) 43 3 _ _ _ (.int .i64 0) a0.N rfl rfl rfl rfl rfl rfl (fun _ => rfl) (by kernel_rfl) (by kernel_rfl) g978 hI ?_)
            clear hI
            intro b1048 _ hI
            refine ⟨(hI.pick [0] (by decide) rfl), ?_⟩
            refine held_batch (n := 2) [] [(12, .p)] [(26, .agg #[.slice A1037 y974.length c1038, .slice (some ⟨b1032, 0, none⟩) a0.N.toNat a0.N.toNat, .slice (some ⟨b1048, 0, none⟩) a0.N.toNat a0.N.toNat, .slice (some ⟨b1046, 0, none⟩) a0.N.toNat a0.N.toNat, .slice none 0 0, .int .i64 0, .int .i64 0])] [] [true, true, true, true, true, true, true, true, true, true, true, true, true, false, false] (by kernel_rfl) (fun w hS => trivial) (hI.pick [0] (by decide) rfl) trivial (by kernel_rfl) (by kernel_rfl) (by kernel_rfl) ?_
            refine held_one (n := 1) 13 _ rfl (by kernel_rfl) (by kernel_rfl) (e_box 65 _ (.agg #[.slice A1037 y974.length c1038, .slice (some ⟨b1032, 0, none⟩) a0.N.toNat a0.N.toNat, .slice (some ⟨b1048, 0, none⟩) a0.N.toNat a0.N.toNat, .slice (some ⟨b1046, 0, none⟩) a0.N.toNat a0.N.toNat, .slice none 0 0, .int .i64 0, .int .i64 0]) [.slice A1037 y974.length c1038, .slice (some ⟨b1032, 0, none⟩) a0.N.toNat a0.N.toNat, .slice (some ⟨b1048, 0, none⟩) a0.N.toNat a0.N.toNat, .slice (some ⟨b1046, 0, none⟩) a0.N.toNat a0.N.toNat, .slice none 0 0, .int .i64 0, .int .i64 0] rfl (by kernel_rfl) rfl hI ?_)
            clear hI
            intro b1050 _ hI
            refine ⟨(hI.pick [0] (by decide) rfl), ?_⟩
            refine held_batch (n := 0) [] [(14, .p)] [(7, .pointer (some ⟨b1050, 0, none⟩))] [] [true, true, true, true, true, true, true, true, true, true, true, true, true, true, true] (by kernel_rfl) (fun w hS => trivial) (hI.pick [0] (by decide) rfl) trivial (by kernel_rfl) (by kernel_rfl) (by kernel_rfl) ?_
            refine held_done (by kernel_rfl) ?_
            replace hI := hI.renum 1 rfl
            replace hI := hI.renum 3 rfl
            replace hI := hI.renum 4 rfl
            replace hI := hI.recell 5 [.slice A1037 y974.length c1038, .slice (some ⟨b1032, 0, none⟩) ((List.replicate a0.N.toNat (default : Int)).length) a0.N.toNat, .slice (some ⟨b1048, 0, none⟩) ((List.replicate a0.N.toNat (default : Int)).length) a0.N.toNat, .slice (some ⟨b1046, 0, none⟩) ((List.replicate a0.N.toNat (default : Int)).length) a0.N.toNat, .slice none 0 0, .int .i64 0, .int .i64 0] (by first | rfl | simp only [List.length_set, List.length_replicate, List.length_nil]) rfl
            exact hJ238 y974 _ _ ⟨_, b1050, A1037, c1038, (some ⟨b1032, 0, none⟩), a0.N.toNat, (some ⟨b1048, 0, none⟩), a0.N.toNat, (some ⟨b1046, 0, none⟩), a0.N.toNat, at_slots _ (by kernel_rfl), hI.pick [0, 5, 2, 1, 4, 3] (by decide) rfl⟩ H
        · refine (e_make (tInt .i64) (default : Int) 43 3 _ _ _ (.int .i64 0) a0.N rfl rfl rfl rfl rfl rfl (fun _ => rfl) (by kernel_rfl) (by kernel_rfl) g978 hI ?_)
          clear hI
          intro b1051 _ hI
          refine ⟨(hI.pick [0] (by decide) rfl), ?_⟩
          refine held_each (n := 4) [2, 11] (by simp) (by kernel_rfl) ⟨⟨_, rfl, by kernel_rfl, ?_⟩, ⟨_, rfl, by kernel_rfl, ?_⟩, trivial⟩
          · refine (e_callf _ _ _ 32 #[] #[] #[.agg #[.int .i64 a0.N, .slice A0z0 a0.Edges.length c0z0], .int .i64 a1] #[.agg #[.int .i64 a0.N, .slice A0z0 a0.Edges.length c0z0], .int .i64 a1] rfl (by kernel_rfl) (by kernel_rfl) (by kernel_rfl) (enter32 _) (graph_rows_calls a0 A0z0 c0z0 a1 (memOf _) _ (Inv.start _) (hI.rd hr0z0) hl0z0 _ hy975) ?_)
            rintro _ _ ⟨A1055, c1056, rfl, hI'⟩
            replace hI := hI.call0 hI'
            clear hI'
            refine ⟨_, rfl, ?_⟩
            refine ⟨(hI.pick [0] (by decide) rfl), ?_⟩
            refine held_one (n := 3) 11 _ rfl (by kernel_rfl) (by kernel_rfl) (e_make (tInt .i64) (default : Int) 43 3 _ _ _ (.int .i64 0) a0.N rfl rfl rfl rfl rfl rfl (fun _ => rfl) (by kernel_rfl) (by kernel_rfl) g978 hI ?_)
            clear hI
            intro b1058 _ hI
            refine ⟨(hI.pick [0] (by decide) rfl), ?_⟩
            refine held_batch (n := 2) [] [(12, .p)] [(26, .agg #[.slice A1055 y974.length c1056, .slice (some ⟨b1032, 0, none⟩) a0.N.toNat a0.N.toNat, .slice (some ⟨b1051, 0, none⟩) a0.N.toNat a0.N.toNat, .slice (some ⟨b1058, 0, none⟩) a0.N.toNat a0.N.toNat, .slice none 0 0, .int .i64 0, .int .i64 0])] [] [true, true, true, true, true, true, true, true, true, true, true, true, true, false, false] (by kernel_rfl) (fun w hS => trivial) (hI.pick [0] (by decide) rfl) trivial (by kernel_rfl) (by kernel_rfl) (by kernel_rfl) ?_
            refine held_one (n := 1) 13 _ rfl (by kernel_rfl) (by kernel_rfl) (e_box 65 _ (.agg #[.slice A1055 y974.length c1056, .slice (some ⟨b1032, 0, none⟩) a0.N.toNat a0.N.toNat, .slice (some ⟨b1051, 0, none⟩) a0.N.toNat a0.N.toNat, .slice (some ⟨b1058, 0, none⟩) a0.N.toNat a0.N.toNat, .slice none 0 0, .int .i64 0, .int .i64 0]) [.slice A1055 y974.length c1056, .slice (some ⟨b1032, 0, none⟩) a0.N.toNat a0.N.toNat, .slice (some ⟨b1051, 0, none⟩) a0.N.toNat a0.N.toNat, .slice (some ⟨b1058, 0, none⟩) a0.N.toNat a0.N.toNat, .slice none 0 0, .int .i64 0, .int .i64 0] rfl (by kernel_rfl) rfl hI ?_)
            clear hI
            intro b1060 _ hI
            refine ⟨(hI.pick [0] (by decide) rfl), ?_⟩
            refine held_batch (n := 0) [] [(14, .p)] [(7, .pointer (some ⟨b1060, 0, none⟩))] [] [true, true, true, true, true, true, true, true, true, true, true, true, true, true, true] (by kernel_rfl) (fun w hS => trivial) (hI.pick [0] (by decide) rfl) trivial (by kernel_rfl) (by kernel_rfl) (by kernel_rfl) ?_
            refine held_done (by kernel_rfl) ?_
            replace hI := hI.renum 1 rfl
            replace hI := hI.renum 2 rfl
            replace hI := hI.renum 4 rfl
            replace hI := hI.recell 5 [.slice A1055 y974.length c1056, .slice (some ⟨b1032, 0, none⟩) ((List.replicate a0.N.toNat (default : Int)).length) a0.N.toNat, .slice (some ⟨b1051, 0, none⟩) ((List.replicate a0.N.toNat (default : Int)).length) a0.N.toNat, .slice (some ⟨b1058, 0, none⟩) ((List.replicate a0.N.toNat (default : Int)).length) a0.N.toNat, .slice none 0 0, .int .i64 0, .int .i64 0] (by first | rfl | simp only [List.length_set, List.length_replicate, List.length_nil]) rfl
            exact hJ238 y974 _ _ ⟨_, b1060, A1055, c1056, (some ⟨b1032, 0, none⟩), a0.N.toNat, (some ⟨b1051, 0, none⟩), a0.N.toNat, (some ⟨b1058, 0, none⟩), a0.N.toNat, at_slots _ (by kernel_rfl), hI.pick [0, 5, 3, 1, 2, 4] (by decide) rfl⟩ H
          · refine (e_make (tInt .i64) (default : Int) 43 3 _ _ _ (.int .i64 0) a0.N rfl rfl rfl rfl rfl rfl (fun _ => rfl) (by kernel_rfl) (by kernel_rfl) g978 hI ?_)
            clear hI
            intro b1061 _ hI
            refine ⟨(hI.pick [0] (by decide) rfl), ?_⟩
            refine held_one (n := 3) 2 _ rfl (by kernel_rfl) (by kernel_rfl) (e_callf _ _ _ 32 #[] #[] #[.agg #[.int .i64 a0.N, .slice A0z0 a0.Edges.length c0z0], .int .i64 a1] #[.agg #[.int .i64 a0.N, .slice A0z0 a0.Edges.length c0z0], .int .i64 a1] rfl (by kernel_rfl) (by kernel_rfl) (by kernel_rfl) (enter32 _) (graph_rows_calls a0 A0z0 c0z0 a1 (memOf _) _ (Inv.start _) (hI.rd hr0z0) hl0z0 _ hy975) ?_)
            rintro _ _ ⟨A1064, c1065, rfl, hI'⟩
            replace hI := hI.call0 hI'
            clear hI'
            refine ⟨_, rfl, ?_⟩
            refine ⟨(hI.pick [0] (by decide) rfl), ?_⟩
            refine held_batch (n := 2) [] [(12, .p)] [(26, .agg #[.slice A1064 y974.length c1065, .slice (some ⟨b1032, 0, none⟩) a0.N.toNat a0.N.toNat, .slice (some ⟨b1051, 0, none⟩) a0.N.toNat a0.N.toNat, .slice (some ⟨b1061, 0, none⟩) a0.N.toNat a0.N.toNat, .slice none 0 0, .int .i64 0, .int .i64 0])] [] [true, true, true, true, true, true, true, true, true, true, true, true, true, false, false] (by kernel_rfl) (fun w hS => trivial) (hI.pick [0] (by decide) rfl) trivial (by kernel_rfl) (by kernel_rfl) (by kernel_rfl) ?_
            refine held_one (n := 1) 13 _ rfl (by kernel_rfl) (by kernel_rfl) (e_box 65 _ (.agg #[.slice A1064 y974.length c1065, .slice (some ⟨b1032, 0, none⟩) a0.N.toNat a0.N.toNat, .slice (some ⟨b1051, 0, none⟩) a0.N.toNat a0.N.toNat, .slice (some ⟨b1061, 0, none⟩) a0.N.toNat a0.N.toNat, .slice none 0 0, .int .i64 0, .int .i64 0]) [.slice A1064 y974.length c1065, .slice (some ⟨b1032, 0, none⟩) a0.N.toNat a0.N.toNat, .slice (some ⟨b1051, 0, none⟩) a0.N.toNat a0.N.toNat, .slice (some ⟨b1061, 0, none⟩) a0.N.toNat a0.N.toNat, .slice none 0 0, .int .i64 0, .int .i64 0] rfl (by kernel_rfl) rfl hI ?_)
            clear hI
            intro b1067 _ hI
            refine ⟨(hI.pick [0] (by decide) rfl), ?_⟩
            refine held_batch (n := 0) [] [(14, .p)] [(7, .pointer (some ⟨b1067, 0, none⟩))] [] [true, true, true, true, true, true, true, true, true, true, true, true, true, true, true] (by kernel_rfl) (fun w hS => trivial) (hI.pick [0] (by decide) rfl) trivial (by kernel_rfl) (by kernel_rfl) (by kernel_rfl) ?_
            refine held_done (by kernel_rfl) ?_
            replace hI := hI.renum 1 rfl
            replace hI := hI.renum 2 rfl
            replace hI := hI.renum 3 rfl
            replace hI := hI.recell 5 [.slice A1064 y974.length c1065, .slice (some ⟨b1032, 0, none⟩) ((List.replicate a0.N.toNat (default : Int)).length) a0.N.toNat, .slice (some ⟨b1051, 0, none⟩) ((List.replicate a0.N.toNat (default : Int)).length) a0.N.toNat, .slice (some ⟨b1061, 0, none⟩) ((List.replicate a0.N.toNat (default : Int)).length) a0.N.toNat, .slice none 0 0, .int .i64 0, .int .i64 0] (by first | rfl | simp only [List.length_set, List.length_replicate, List.length_nil]) rfl
            exact hJ238 y974 _ _ ⟨_, b1067, A1064, c1065, (some ⟨b1032, 0, none⟩), a0.N.toNat, (some ⟨b1051, 0, none⟩), a0.N.toNat, (some ⟨b1061, 0, none⟩), a0.N.toNat, at_slots _ (by kernel_rfl), hI.pick [0, 5, 4, 1, 2, 3] (by decide) rfl⟩ H
        · refine (e_make (tInt .i64) (default : Int) 43 3 _ _ _ (.int .i64 0) a0.N rfl rfl rfl rfl rfl rfl (fun _ => rfl) (by kernel_rfl) (by kernel_rfl) g978 hI ?_)
          clear hI
          intro b1068 _ hI
          refine ⟨(hI.pick [0] (by decide) rfl), ?_⟩
          refine held_each (n := 4) [2, 8] (by simp) (by kernel_rfl) ⟨⟨_, rfl, by kernel_rfl, ?_⟩, ⟨_, rfl, by kernel_rfl, ?_⟩, trivial⟩
          · refine (e_callf _ _ _ 32 #[] #[] #[.agg #[.int .i64 a0.N, .slice A0z0 a0.Edges.length c0z0], .int .i64 a1] #[.agg #[.int .i64 a0.N, .slice A0z0 a0.Edges.length c0z0], .int .i64 a1] rfl (by kernel_rfl) (by kernel_rfl) (by kernel_rfl) (enter32 _) (graph_rows_calls a0 A0z0 c0z0 a1 (memOf _) _ (Inv.start _) (hI.rd hr0z0) hl0z0 _ hy975) ?_)
            rintro _ _ ⟨A1072, c1073, rfl, hI'⟩
            replace hI := hI.call0 hI'
            clear hI'
            refine ⟨_, rfl, ?_⟩
            refine ⟨(hI.pick [0] (by decide) rfl), ?_⟩
            refine held_one (n := 3) 8 _ rfl (by kernel_rfl) (by kernel_rfl) (e_make (tInt .i64) (default : Int) 43 3 _ _ _ (.int .i64 0) a0.N rfl rfl rfl rfl rfl rfl (fun _ => rfl) (by kernel_rfl) (by kernel_rfl) g978 hI ?_)
            clear hI
            intro b1075 _ hI
            refine ⟨(hI.pick [0] (by decide) rfl), ?_⟩
            refine held_batch (n := 2) [] [(12, .p)] [(26, .agg #[.slice A1072 y974.length c1073, .slice (some ⟨b1032, 0, none⟩) a0.N.toNat a0.N.toNat, .slice (some ⟨b1075, 0, none⟩) a0.N.toNat a0.N.toNat, .slice (some ⟨b1068, 0, none⟩) a0.N.toNat a0.N.toNat, .slice none 0 0, .int .i64 0, .int .i64 0])] [] [true, true, true, true, true, true, true, true, true, true, true, true, true, false, false] (by kernel_rfl) (fun w hS => trivial) (hI.pick [0] (by decide) rfl) trivial (by kernel_rfl) (by kernel_rfl) (by kernel_rfl) ?_
            refine held_one (n := 1) 13 _ rfl (by kernel_rfl) (by kernel_rfl) (e_box 65 _ (.agg #[.slice A1072 y974.length c1073, .slice (some ⟨b1032, 0, none⟩) a0.N.toNat a0.N.toNat, .slice (some ⟨b1075, 0, none⟩) a0.N.toNat a0.N.toNat, .slice (some ⟨b1068, 0, none⟩) a0.N.toNat a0.N.toNat, .slice none 0 0, .int .i64 0, .int .i64 0]) [.slice A1072 y974.length c1073, .slice (some ⟨b1032, 0, none⟩) a0.N.toNat a0.N.toNat, .slice (some ⟨b1075, 0, none⟩) a0.N.toNat a0.N.toNat, .slice (some ⟨b1068, 0, none⟩) a0.N.toNat a0.N.toNat, .slice none 0 0, .int .i64 0, .int .i64 0] rfl (by kernel_rfl) rfl hI ?_)
            clear hI
            intro b1077 _ hI
            refine ⟨(hI.pick [0] (by decide) rfl), ?_⟩
            refine held_batch (n := 0) [] [(14, .p)] [(7, .pointer (some ⟨b1077, 0, none⟩))] [] [true, true, true, true, true, true, true, true, true, true, true, true, true, true, true] (by kernel_rfl) (fun w hS => trivial) (hI.pick [0] (by decide) rfl) trivial (by kernel_rfl) (by kernel_rfl) (by kernel_rfl) ?_
            refine held_done (by kernel_rfl) ?_
            replace hI := hI.renum 1 rfl
            replace hI := hI.renum 2 rfl
            replace hI := hI.renum 4 rfl
            replace hI := hI.recell 5 [.slice A1072 y974.length c1073, .slice (some ⟨b1032, 0, none⟩) ((List.replicate a0.N.toNat (default : Int)).length) a0.N.toNat, .slice (some ⟨b1075, 0, none⟩) ((List.replicate a0.N.toNat (default : Int)).length) a0.N.toNat, .slice (some ⟨b1068, 0, none⟩) ((List.replicate a0.N.toNat (default : Int)).length) a0.N.toNat, .slice none 0 0, .int .i64 0, .int .i64 0] (by first | rfl | simp only [List.length_set, List.length_replicate, List.length_nil]) rfl
            exact hJ238 y974 _ _ ⟨_, b1077, A1072, c1073, (some ⟨b1032, 0, none⟩), a0.N.toNat, (some ⟨b1075, 0, none⟩), a0.N.toNat, (some ⟨b1068, 0, none⟩), a0.N.toNat, at_slots _ (by kernel_rfl), hI.pick [0, 5, 3, 1, 4, 2] (by decide) rfl⟩ H
          · refine (e_make (tInt .i64) (default : Int) 43 3 _ _ _ (.int .i64 0) a0.N rfl rfl rfl rfl rfl rfl (fun _ => rfl) (by kernel_rfl) (by kernel_rfl) g978 hI ?_)
            clear hI
            intro b1078 _ hI
            refine ⟨(hI.pick [0] (by decide) rfl), ?_⟩
            refine held_one (n := 3) 2 _ rfl (by kernel_rfl) (by kernel_rfl) (e_callf _ _ _ 32 #[] #[] #[.agg #[.int .i64 a0.N, .slice A0z0 a0.Edges.length c0z0], .int .i64 a1] #[.agg #[.int .i64 a0.N, .slice A0z0 a0.Edges.length c0z0], .int .i64 a1] rfl (by kernel_rfl) (by kernel_rfl) (by kernel_rfl) (enter32 _) (graph_rows_calls a0 A0z0 c0z0 a1 (memOf _) _ (Inv.start _) (hI.rd hr0z0) hl0z0 _ hy975) ?_)
            rintro _ _ ⟨A1081, c1082, rfl, hI'⟩
            replace hI := hI.call0 hI'
            clear hI'
            refine ⟨_, rfl, ?_⟩
            refine ⟨(hI.pick [0] (by decide) rfl), ?_⟩
            refine held_batch (n := 2) [] [(12, .p)] [(26, .agg #[.slice A1081 y974.length c1082, .slice (some ⟨b1032, 0, none⟩) a0.N.toNat a0.N.toNat, .slice (some ⟨b1078, 0, none⟩) a0.N.toNat a0.N.toNat, .slice (some ⟨b1068, 0, none⟩) a0.N.toNat a0.N.toNat, .slice none 0 0, .int .i64 0, .int .i64 0])] [] [true, true, true, true, true, true, true, true, true, true, true, true, true, false, false] (by kernel_rfl) (fun w hS => trivial) (hI.pick [0] (by decide) rfl) trivial (by kernel_rfl) (by kernel_rfl) (by kernel_rfl) ?_
            refine held_one (n := 1) 13 _ rfl (by kernel_rfl) (by kernel_rfl) (e_box 65 _ (.agg #[.slice A1081 y974.length c1082, .slice (some ⟨b1032, 0, none⟩) a0.N.toNat a0.N.toNat, .slice (some ⟨b1078, 0, none⟩) a0.N.toNat a0.N.toNat, .slice (some ⟨b1068, 0, none⟩) a0.N.toNat a0.N.toNat, .slice none 0 0, .int .i64 0, .int .i64 0]) [.slice A1081 y974.length c1082, .slice (some ⟨b1032, 0, none⟩) a0.N.toNat a0.N.toNat, .slice (some ⟨b1078, 0, none⟩) a0.N.toNat a0.N.toNat, .slice (some ⟨b1068, 0, none⟩) a0.N.toNat a0.N.toNat, .slice none 0 0, .int .i64 0, .int .i64 0] rfl (by kernel_rfl) rfl hI ?_)
            clear hI
            intro b1084 _ hI
            refine ⟨(hI.pick [0] (by decide) rfl), ?_⟩
            refine held_batch (n := 0) [] [(14, .p)] [(7, .pointer (some ⟨b1084, 0, none⟩))] [] [true, true, true, true, true, true, true, true, true, true, true, true, true, true, true] (by kernel_rfl) (fun w hS => trivial) (hI.pick [0] (by decide) rfl) trivial (by kernel_rfl) (by kernel_rfl) (by kernel_rfl) ?_
            refine held_done (by kernel_rfl) ?_
            replace hI := hI.renum 1 rfl
            replace hI := hI.renum 2 rfl
            replace hI := hI.renum 3 rfl
            replace hI := hI.recell 5 [.slice A1081 y974.length c1082, .slice (some ⟨b1032, 0, none⟩) ((List.replicate a0.N.toNat (default : Int)).length) a0.N.toNat, .slice (some ⟨b1078, 0, none⟩) ((List.replicate a0.N.toNat (default : Int)).length) a0.N.toNat, .slice (some ⟨b1068, 0, none⟩) ((List.replicate a0.N.toNat (default : Int)).length) a0.N.toNat, .slice none 0 0, .int .i64 0, .int .i64 0] (by first | rfl | simp only [List.length_set, List.length_replicate, List.length_nil]) rfl
            exact hJ238 y974 _ _ ⟨_, b1084, A1081, c1082, (some ⟨b1032, 0, none⟩), a0.N.toNat, (some ⟨b1078, 0, none⟩), a0.N.toNat, (some ⟨b1068, 0, none⟩), a0.N.toNat, at_slots _ (by kernel_rfl), hI.pick [0, 5, 4, 1, 3, 2] (by decide) rfl⟩ H
      · refine (e_make (tInt .i64) (default : Int) 43 3 _ _ _ (.int .i64 0) a0.N rfl rfl rfl rfl rfl rfl (fun _ => rfl) (by kernel_rfl) (by kernel_rfl) g978 hI ?_)
        clear hI
        intro b1085 _ hI
        refine ⟨(hI.pick [0] (by decide) rfl), ?_⟩
        refine held_each (n := 5) [2, 5, 11] (by simp) (by kernel_rfl) ⟨⟨_, rfl, by kernel_rfl, ?_⟩, ⟨_, rfl, by kernel_rfl, ?_⟩, ⟨_, rfl, by kernel_rfl, ?_⟩, trivial⟩
        · refine (e_callf _ _ _ 32 #[] #[] #[.agg #[.int .i64 a0.N, .slice A0z0 a0.Edges.length c0z0], .int .i64 a1] #[.agg #[.int .i64 a0.N, .slice A0z0 a0.Edges.length c0z0], .int .i64 a1] rfl (by kernel_rfl) (by kernel_rfl) (by kernel_rfl) (enter32 _) (graph_rows_calls a0 A0z0 c0z0 a1 (memOf _) _ (Inv.start _) (hI.rd hr0z0) hl0z0 _ hy975) ?_)
          rintro _ _ ⟨A1090, c1091, rfl, hI'⟩
          replace hI := hI.call0 hI'
          clear hI'
          refine ⟨_, rfl, ?_⟩
          refine ⟨(hI.pick [0] (by decide) rfl), ?_⟩
          refine held_each (n := 4) [5, 11] (by simp) (by kernel_rfl) ⟨⟨_, rfl, by kernel_rfl, ?_⟩, ⟨_, rfl, by kernel_rfl, ?_⟩, trivial⟩
          · refine (e_make (tInt .i64) (default : Int) 43 3 _ _ _ (.int .i64 0) a0.N rfl rfl rfl rfl rfl rfl (fun _ => rfl) (by kernel_rfl) (by kernel_rfl) g978 hI ?_)
            clear hI
            intro b1094 _ hI
            refine ⟨(hI.pick [0] (by decide) rfl), ?_⟩
            refine held_one (n := 3) 11 _ rfl (by kernel_rfl) (by kernel_rfl) (e_make (tInt .i64) (default : Int) 43 3 _ _ _ (.int .i64 0) a0.N rfl rfl rfl rfl rfl rfl (fun _ => rfl) (by kernel_rfl) (by kernel_rfl) g978 hI ?_)
            clear hI
            intro b1096 _ hI
            refine ⟨(hI.pick [0] (by decide) rfl), ?_⟩
            refine held_batch (n := 2) [] [(12, .p)] [(26, .agg #[.slice A1090 y974.length c1091, .slice (some ⟨b1094, 0, none⟩) a0.N.toNat a0.N.toNat, .slice (some ⟨b1085, 0, none⟩) a0.N.toNat a0.N.toNat, .slice (some ⟨b1096, 0, none⟩) a0.N.toNat a0.N.toNat, .slice none 0 0, .int .i64 0, .int .i64 0])] [] [true, true, true, true, true, true, true, true, true, true, true, true, true, false, false] (by kernel_rfl) (fun w hS => trivial) (hI.pick [0] (by decide) rfl) trivial (by kernel_rfl) (by kernel_rfl) (by kernel_rfl) ?_
            refine held_one (n := 1) 13 _ rfl (by kernel_rfl) (by kernel_rfl) (e_box 65 _ (.agg #[.slice A1090 y974.length c1091, .slice (some ⟨b1094, 0, none⟩) a0.N.toNat a0.N.toNat, .slice (some ⟨b1085, 0, none⟩) a0.N.toNat a0.N.toNat, .slice (some ⟨b1096, 0, none⟩) a0.N.toNat a0.N.toNat, .slice none 0 0, .int .i64 0, .int .i64 0]) [.slice A1090 y974.length c1091, .slice (some ⟨b1094, 0, none⟩) a0.N.toNat a0.N.toNat, .slice (some ⟨b1085, 0, none⟩) a0.N.toNat a0.N.toNat, .slice (some ⟨b1096, 0, none⟩) a0.N.toNat a0.N.toNat, .slice none 0 0, .int .i64 0, .int .i64 0] rfl (by kernel_rfl) rfl hI ?_)
            clear hI
            intro b1098 _ hI
            refine ⟨(hI.pick [0] (by decide) rfl), ?_⟩
            refine held_batch (n := 0) [] [(14, .p)] [(7, .pointer (some ⟨b1098, 0, none⟩))] [] [true, true, true, true, true, true, true, true, true, true, true, true, true, true, true] (by kernel_rfl) (fun w hS => trivial) (hI.pick [0] (by decide) rfl) trivial (by kernel_rfl) (by kernel_rfl) (by kernel_rfl) ?_
            refine held_done (by kernel_rfl) ?_
            replace hI := hI.renum 1 rfl
            replace hI := hI.renum 3 rfl
            replace hI := hI.renum 4 rfl
            replace hI := hI.recell 5 [.slice A1090 y974.length c1091, .slice (some ⟨b1094, 0, none⟩) ((List.replicate a0.N.toNat (default : Int)).length) a0.N.toNat, .slice (some ⟨b1085, 0, none⟩) ((List.replicate a0.N.toNat (default : Int)).length) a0.N.toNat, .slice (some ⟨b1096, 0, none⟩) ((List.replicate a0.N.toNat (default : Int)).length) a0.N.toNat, .slice none 0 0, .int .i64 0, .int .i64 0] (by first | rfl | simp only [List.length_set, List.length_replicate, List.length_nil]) rfl
            exact hJ238 y974 _ _ ⟨_, b1098, A1090, c1091, (some ⟨b1094, 0, none⟩), a0.N.toNat, (some ⟨b1085, 0, none⟩), a0.N.toNat, (some ⟨b1096, 0, none⟩), a0.N.toNat, at_slots _ (by kernel_rfl), hI.pick [0, 5, 2, 3, 1, 4] (by decide) rfl⟩ H
          · refine (e_make (tInt .i64) (default : Int) 43 3 _ _ _ (.int .i64 0) a0.N rfl rfl rfl rfl rfl rfl (fun _ => rfl) (by kernel_rfl) (by kernel_rfl) g978 hI ?_)
            clear hI
            intro b1099 _ hI
            refine ⟨(hI.pick [0] (by decide) rfl), ?_⟩
            refine held_one (n := 3) 5 _ rfl (by kernel_rfl) (by kernel_rfl) (e_make (tInt .i64) (default : Int) 43 3 _ _ _ (.int .i64 0) a0.N rfl rfl rfl rfl rfl rfl (fun _ => rfl) (by kernel_rfl) (by kernel_rfl) g978 hI ?_)
            clear hI
            intro b1101 _ hI
            refine ⟨(hI.pick [0] (by decide) rfl), ?_⟩
            refine held_batch (n := 2) [] [(12, .p)] [(26, .agg #[.slice A1090 y974.length c1091, .slice (some ⟨b1101, 0, none⟩) a0.N.toNat a0.N.toNat, .slice (some ⟨b1085, 0, none⟩) a0.N.toNat a0.N.toNat, .slice (some ⟨b1099, 0, none⟩) a0.N.toNat a0.N.toNat, .slice none 0 0, .int .i64 0, .int .i64 0])] [] [true, true, true, true, true, true, true, true, true, true, true, true, true, false, false] (by kernel_rfl) (fun w hS => trivial) (hI.pick [0] (by decide) rfl) trivial (by kernel_rfl) (by kernel_rfl) (by kernel_rfl) ?_
            refine held_one (n := 1) 13 _ rfl (by kernel_rfl) (by kernel_rfl) (e_box 65 _ (.agg #[.slice A1090 y974.length c1091, .slice (some ⟨b1101, 0, none⟩) a0.N.toNat a0.N.toNat, .slice (some ⟨b1085, 0, none⟩) a0.N.toNat a0.N.toNat, .slice (some ⟨b1099, 0, none⟩) a0.N.toNat a0.N.toNat, .slice none 0 0, .int .i64 0, .int .i64 0]) [.slice A1090 y974.length c1091, .slice (some ⟨b1101, 0, none⟩) a0.N.toNat a0.N.toNat, .slice (some ⟨b1085, 0, none⟩) a0.N.toNat a0.N.toNat, .slice (some ⟨b1099, 0, none⟩) a0.N.toNat a0.N.toNat, .slice none 0 0, .int .i64 0, .int .i64 0] rfl (by kernel_rfl) rfl hI ?_)
            clear hI
            intro b1103 _ hI
            refine ⟨(hI.pick [0] (by decide) rfl), ?_⟩
            refine held_batch (n := 0) [] [(14, .p)] [(7, .pointer (some ⟨b1103, 0, none⟩))] [] [true, true, true, true, true, true, true, true, true, true, true, true, true, true, true] (by kernel_rfl) (fun w hS => trivial) (hI.pick [0] (by decide) rfl) trivial (by kernel_rfl) (by kernel_rfl) (by kernel_rfl) ?_
            refine held_done (by kernel_rfl) ?_
            replace hI := hI.renum 1 rfl
            replace hI := hI.renum 3 rfl
            replace hI := hI.renum 4 rfl
            replace hI := hI.recell 5 [.slice A1090 y974.length c1091, .slice (some ⟨b1101, 0, none⟩) ((List.replicate a0.N.toNat (default : Int)).length) a0.N.toNat, .slice (some ⟨b1085, 0, none⟩) ((List.replicate a0.N.toNat (default : Int)).length) a0.N.toNat, .slice (some ⟨b1099, 0, none⟩) ((List.replicate a0.N.toNat (default : Int)).length) a0.N.toNat, .slice none 0 0, .int .i64 0, .int .i64 0] (by first | rfl | simp only [List.length_set, List.length_replicate, List.length_nil]) rfl
            exact hJ238 y974 _ _ ⟨_, b1103, A1090, c1091, (some ⟨b1101, 0, none⟩), a0.N.toNat, (some ⟨b1085, 0, none⟩), a0.N.toNat, (some ⟨b1099, 0, none⟩), a0.N.toNat, at_slots _ (by kernel_rfl), hI.pick [0, 5, 2, 4, 1, 3] (by decide) rfl⟩ H
        · refine (e_make (tInt .i64) (default : Int) 43 3 _ _ _ (.int .i64 0) a0.N rfl rfl rfl rfl rfl rfl (fun _ => rfl) (by kernel_rfl) (by kernel_rfl) g978 hI ?_)
          clear hI
          intro b1104 _ hI
          refine ⟨(hI.pick [0] (by decide) rfl), ?_⟩
          refine held_each (n := 4) [2, 11] (by simp) (by kernel_rfl) ⟨⟨_, rfl, by kernel_rfl, ?_⟩, ⟨_, rfl, by kernel_rfl, ?_⟩, trivial⟩
          · refine (e_callf _ _ _ 32 #[] #[] #[.agg #[.int .i64 a0.N, .slice A0z0 a0.Edges.length c0z0], .int .i64 a1] #[.agg #[.int .i64 a0.N, .slice A0z0 a0.Edges.length c0z0], .int .i64 a1] rfl (by kernel_rfl) (by kernel_rfl) (by kernel_rfl) (enter32 _) (graph_rows_calls a0 A0z0 c0z0 a1 (memOf _) _ (Inv.start _) (hI.rd hr0z0) hl0z0 _ hy975) ?_)
            rintro _ _ ⟨A1108, c1109, rfl, hI'⟩
            replace hI := hI.call0 hI'
            clear hI'
            refine ⟨_, rfl, ?_⟩
            refine ⟨(hI.pick [0] (by decide) rfl), ?_⟩
            refine held_one (n := 3) 11 _ rfl (by kernel_rfl) (by kernel_rfl) (e_make (tInt .i64) (default : Int) 43 3 _ _ _ (.int .i64 0) a0.N rfl rfl rfl rfl rfl rfl (fun _ => rfl) (by kernel_rfl) (by kernel_rfl) g978 hI ?_)
            clear hI
            intro b1111 _ hI
            refine ⟨(hI.pick [0] (by decide) rfl), ?_⟩
            refine held_batch (n := 2) [] [(12, .p)] [(26, .agg #[.slice A1108 y974.length c1109, .slice (some ⟨b1104, 0, none⟩) a0.N.toNat a0.N.toNat, .slice (some ⟨b1085, 0, none⟩) a0.N.toNat a0.N.toNat, .slice (some ⟨b1111, 0, none⟩) a0.N.toNat a0.N.toNat, .slice none 0 0, .int .i64 0, .int .i64 0])] [] [true, true, true, true, true, true, true, true, true, true, true, true, true, false, false] (by kernel_rfl) (fun w hS => trivial) (hI.pick [0] (by decide) rfl) trivial (by kernel_rfl) (by kernel_rfl) (by kernel_rfl) ?_
            refine held_one (n := 1) 13 _ rfl (by kernel_rfl) (by kernel_rfl) (e_box 65 _ (.agg #[.slice A1108 y974.length c1109, .slice (some ⟨b1104, 0, none⟩) a0.N.toNat a0.N.toNat, .slice (some ⟨b1085, 0, none⟩) a0.N.toNat a0.N.toNat, .slice (some ⟨b1111, 0, none⟩) a0.N.toNat a0.N.toNat, .slice none 0 0, .int .i64 0, .int .i64 0]) [.slice A1108 y974.length c1109, .slice (some ⟨b1104, 0, none⟩) a0.N.toNat a0.N.toNat, .slice (some ⟨b1085, 0, none⟩) a0.N.toNat a0.N.toNat, .slice (some ⟨b1111, 0, none⟩) a0.N.toNat a0.N.toNat, .slice none 0 0, .int .i64 0, .int .i64 0] rfl (by kernel_rfl) rfl hI ?_)
            clear hI
            intro b1113 _ hI
            refine ⟨(hI.pick [0] (by decide) rfl), ?_⟩
            refine held_batch (n := 0) [] [(14, .p)] [(7, .pointer (some ⟨b1113, 0, none⟩))] [] [true, true, true, true, true, true, true, true, true, true, true, true, true, true, true] (by kernel_rfl) (fun w hS => trivial) (hI.pick [0] (by decide) rfl) trivial (by kernel_rfl) (by kernel_rfl) (by kernel_rfl) ?_
            refine held_done (by kernel_rfl) ?_
            replace hI := hI.renum 1 rfl
            replace hI := hI.renum 2 rfl
            replace hI := hI.renum 4 rfl
            replace hI := hI.recell 5 [.slice A1108 y974.length c1109, .slice (some ⟨b1104, 0, none⟩) ((List.replicate a0.N.toNat (default : Int)).length) a0.N.toNat, .slice (some ⟨b1085, 0, none⟩) ((List.replicate a0.N.toNat (default : Int)).length) a0.N.toNat, .slice (some ⟨b1111, 0, none⟩) ((List.replicate a0.N.toNat (default : Int)).length) a0.N.toNat, .slice none 0 0, .int .i64 0, .int .i64 0] (by first | rfl | simp only [List.length_set, List.length_replicate, List.length_nil]) rfl
            exact hJ238 y974 _ _ ⟨_, b1113, A1108, c1109, (some ⟨b1104, 0, none⟩), a0.N.toNat, (some ⟨b1085, 0, none⟩), a0.N.toNat, (some ⟨b1111, 0, none⟩), a0.N.toNat, at_slots _ (by kernel_rfl), hI.pick [0, 5, 3, 2, 1, 4] (by decide) rfl⟩ H
          · refine (e_make (tInt .i64) (default : Int) 43 3 _ _ _ (.int .i64 0) a0.N rfl rfl rfl rfl rfl rfl (fun _ => rfl) (by kernel_rfl) (by kernel_rfl) g978 hI ?_)
            clear hI
            intro b1114 _ hI
            refine ⟨(hI.pick [0] (by decide) rfl), ?_⟩
            refine held_one (n := 3) 2 _ rfl (by kernel_rfl) (by kernel_rfl) (e_callf _ _ _ 32 #[] #[] #[.agg #[.int .i64 a0.N, .slice A0z0 a0.Edges.length c0z0], .int .i64 a1] #[.agg #[.int .i64 a0.N, .slice A0z0 a0.Edges.length c0z0], .int .i64 a1] rfl (by kernel_rfl) (by kernel_rfl) (by kernel_rfl) (enter32 _) (graph_rows_calls a0 A0z0 c0z0 a1 (memOf _) _ (Inv.start _) (hI.rd hr0z0) hl0z0 _ hy975) ?_)
            rintro _ _ ⟨A1117, c1118, rfl, hI'⟩
            replace hI := hI.call0 hI'
            clear hI'
            refine ⟨_, rfl, ?_⟩
            refine ⟨(hI.pick [0] (by decide) rfl), ?_⟩
            refine held_batch (n := 2) [] [(12, .p)] [(26, .agg #[.slice A1117 y974.length c1118, .slice (some ⟨b1104, 0, none⟩) a0.N.toNat a0.N.toNat, .slice (some ⟨b1085, 0, none⟩) a0.N.toNat a0.N.toNat, .slice (some ⟨b1114, 0, none⟩) a0.N.toNat a0.N.toNat, .slice none 0 0, .int .i64 0, .int .i64 0])] [] [true, true, true, true, true, true, true, true, true, true, true, true, true, false, false] (by kernel_rfl) (fun w hS => trivial) (hI.pick [0] (by decide) rfl) trivial (by kernel_rfl) (by kernel_rfl) (by kernel_rfl) ?_
            refine held_one (n := 1) 13 _ rfl (by kernel_rfl) (by kernel_rfl) (e_box 65 _ (.agg #[.slice A1117 y974.length c1118, .slice (some ⟨b1104, 0, none⟩) a0.N.toNat a0.N.toNat, .slice (some ⟨b1085, 0, none⟩) a0.N.toNat a0.N.toNat, .slice (some ⟨b1114, 0, none⟩) a0.N.toNat a0.N.toNat, .slice none 0 0, .int .i64 0, .int .i64 0]) [.slice A1117 y974.length c1118, .slice (some ⟨b1104, 0, none⟩) a0.N.toNat a0.N.toNat, .slice (some ⟨b1085, 0, none⟩) a0.N.toNat a0.N.toNat, .slice (some ⟨b1114, 0, none⟩) a0.N.toNat a0.N.toNat, .slice none 0 0, .int .i64 0, .int .i64 0] rfl (by kernel_rfl) rfl hI ?_)
            clear hI
            intro b1120 _ hI
            refine ⟨(hI.pick [0] (by decide) rfl), ?_⟩
            refine held_batch (n := 0) [] [(14, .p)] [(7, .pointer (some ⟨b1120, 0, none⟩))] [] [true, true, true, true, true, true, true, true, true, true, true, true, true, true, true] (by kernel_rfl) (fun w hS => trivial) (hI.pick [0] (by decide) rfl) trivial (by kernel_rfl) (by kernel_rfl) (by kernel_rfl) ?_
            refine held_done (by kernel_rfl) ?_
            replace hI := hI.renum 1 rfl
            replace hI := hI.renum 2 rfl
            replace hI := hI.renum 3 rfl
            replace hI := hI.recell 5 [.slice A1117 y974.length c1118, .slice (some ⟨b1104, 0, none⟩) ((List.replicate a0.N.toNat (default : Int)).length) a0.N.toNat, .slice (some ⟨b1085, 0, none⟩) ((List.replicate a0.N.toNat (default : Int)).length) a0.N.toNat, .slice (some ⟨b1114, 0, none⟩) ((List.replicate a0.N.toNat (default : Int)).length) a0.N.toNat, .slice none 0 0, .int .i64 0, .int .i64 0] (by first | rfl | simp only [List.length_set, List.length_replicate, List.length_nil]) rfl
            exact hJ238 y974 _ _ ⟨_, b1120, A1117, c1118, (some ⟨b1104, 0, none⟩), a0.N.toNat, (some ⟨b1085, 0, none⟩), a0.N.toNat, (some ⟨b1114, 0, none⟩), a0.N.toNat, at_slots _ (by kernel_rfl), hI.pick [0, 5, 4, 2, 1, 3] (by decide) rfl⟩ H
        · refine (e_make (tInt .i64) (default : Int) 43 3 _ _ _ (.int .i64 0) a0.N rfl rfl rfl rfl rfl rfl (fun _ => rfl) (by kernel_rfl) (by kernel_rfl) g978 hI ?_)
          clear hI
          intro b1121 _ hI
          refine ⟨(hI.pick [0] (by decide) rfl), ?_⟩
          refine held_each (n := 4) [2, 5] (by simp) (by kernel_rfl) ⟨⟨_, rfl, by kernel_rfl, ?_⟩, ⟨_, rfl, by kernel_rfl, ?_⟩, trivial⟩
          · refine (e_callf _ _ _ 32 #[] #[] #[.agg #[.int .i64 a0.N, .slice A0z0 a0.Edges.length c0z0], .int .i64 a1] #[.agg #[.int .i64 a0.N, .slice A0z0 a0.Edges.length c0z0], .int .i64 a1] rfl (by kernel_rfl) (by kernel_rfl) (by kernel_rfl) (enter32 _) (graph_rows_calls a0 A0z0 c0z0 a1 (memOf _) _ (Inv.start _) (hI.rd hr0z0) hl0z0 _ hy975) ?_)
            rintro _ _ ⟨A1125, c1126, rfl, hI'⟩
            replace hI := hI.call0 hI'
            clear hI'
            refine ⟨_, rfl, ?_⟩
            refine ⟨(hI.pick [0] (by decide) rfl), ?_⟩
            refine held_one (n := 3) 5 _ rfl (by kernel_rfl) (by kernel_rfl) (e_make (tInt .i64) (default : Int) 43 3 _ _ _ (.int .i64 0) a0.N rfl rfl rfl rfl rfl rfl (fun _ => rfl) (by kernel_rfl) (by kernel_rfl) g978 hI ?_)
            clear hI
            intro b1128 _ hI
            refine ⟨(hI.pick [0] (by decide) rfl), ?_⟩
            refine held_batch (n := 2) [] [(12, .p)] [(26, .agg #[.slice A1125 y974.length c1126, .slice (some ⟨b1128, 0, none⟩) a0.N.toNat a0.N.toNat, .slice (some ⟨b1085, 0, none⟩) a0.N.toNat a0.N.toNat, .slice (some ⟨b1121, 0, none⟩) a0.N.toNat a0.N.toNat, .slice none 0 0, .int .i64 0, .int .i64 0])] [] [true, true, true, true, true, true, true, true, true, true, true, true, true, false, false] (by kernel_rfl) (fun w hS => trivial) (hI.pick [0] (by decide) rfl) trivial (by kernel_rfl) (by kernel_rfl) (by kernel_rfl) ?_
            refine held_one (n := 1) 13 _ rfl (by kernel_rfl) (by kernel_rfl) (e_box 65 _ (.agg #[.slice A1125 y974.length c1126, .slice (some ⟨b1128, 0, none⟩) a0.N.toNat a0.N.toNat, .slice (some ⟨b1085, 0, none⟩) a0.N.toNat a0.N.toNat, .slice (some ⟨b1121, 0, none⟩) a0.N.toNat a0.N.toNat, .slice none 0 0, .int .i64 0, .int .i64 0]) [.slice A1125 y974.length c1126, .slice (some ⟨b1128, 0, none⟩) a0.N.toNat a0.N.toNat, .slice (some ⟨b1085, 0, none⟩) a0.N.toNat a0.N.toNat, .slice (some ⟨b1121, 0, none⟩) a0.N.toNat a0.N.toNat, .slice none 0 0, .int .i64 0, .int .i64 0] rfl (by kernel_rfl) rfl hI ?_)
            clear hI
            intro b1130 _ hI
            refine ⟨(hI.pick [0] (by decide) rfl), ?_⟩
            refine held_batch (n := 0) [] [(14, .p)] [(7, .pointer (some ⟨b1130, 0, none⟩))] [] [true, true, true, true, true, true, true, true, true, true, true, true, true, true, true] (by kernel_rfl) (fun w hS => trivial) (hI.pick [0] (by decide) rfl) trivial (by kernel_rfl) (by kernel_rfl) (by kernel_rfl) ?_
            refine held_done (by kernel_rfl) ?_
            replace hI := hI.renum 1 rfl
            replace hI := hI.renum 2 rfl
            replace hI := hI.renum 4 rfl
            replace hI := hI.recell 5 [.slice A1125 y974.length c1126, .slice (some ⟨b1128, 0, none⟩) ((List.replicate a0.N.toNat (default : Int)).length) a0.N.toNat, .slice (some ⟨b1085, 0, none⟩) ((List.replicate a0.N.toNat (default : Int)).length) a0.N.toNat, .slice (some ⟨b1121, 0, none⟩) ((List.replicate a0.N.toNat (default : Int)).length) a0.N.toNat, .slice none 0 0, .int .i64 0, .int .i64 0] (by first | rfl | simp only [List.length_set, List.length_replicate, List.length_nil]) rfl
            exact hJ238 y974 _ _ ⟨_, b1130, A1125, c1126, (some ⟨b1128, 0, none⟩), a0.N.toNat, (some ⟨b1085, 0, none⟩), a0.N.toNat, (some ⟨b1121, 0, none⟩), a0.N.toNat, at_slots _ (by kernel_rfl), hI.pick [0, 5, 3, 4, 1, 2] (by decide) rfl⟩ H
          · refine (e_make (tInt .i64) (default : Int) 43 3 _ _ _ (.int .i64 0) a0.N rfl rfl rfl rfl rfl rfl (fun _ => rfl) (by kernel_rfl) (by kernel_rfl) g978 hI ?_)
            clear hI
            intro b1131 _ hI
            refine ⟨(hI.pick [0] (by decide) rfl), ?_⟩
            refine held_one (n := 3) 2 _ rfl (by kernel_rfl) (by kernel_rfl) (e_callf _ _ _ 32 #[] #[] #[.agg #[.int .i64 a0.N, .slice A0z0 a0.Edges.length c0z0], .int .i64 a1] #[.agg #[.int .i64 a0.N, .slice A0z0 a0.Edges.length c0z0], .int .i64 a1] rfl (by kernel_rfl) (by kernel_rfl) (by kernel_rfl) (enter32 _) (graph_rows_calls a0 A0z0 c0z0 a1 (memOf _) _ (Inv.start _) (hI.rd hr0z0) hl0z0 _ hy975) ?_)
            rintro _ _ ⟨A1134, c1135, rfl, hI'⟩
            replace hI := hI.call0 hI'
            clear hI'
            refine ⟨_, rfl, ?_⟩
            refine ⟨(hI.pick [0] (by decide) rfl), ?_⟩
            refine held_batch (n := 2) [] [(12, .p)] [(26, .agg #[.slice A1134 y974.length c1135, .slice (some ⟨b1131, 0, none⟩) a0.N.toNat a0.N.toNat, .slice (some ⟨b1085, 0, none⟩) a0.N.toNat a0.N.toNat, .slice (some ⟨b1121, 0, none⟩) a0.N.toNat a0.N.toNat, .slice none 0 0, .int .i64 0, .int .i64 0])] [] [true, true, true, true, true, true, true, true, true, true, true, true, true, false, false] (by kernel_rfl) (fun w hS => trivial) (hI.pick [0] (by decide) rfl) trivial (by kernel_rfl) (by kernel_rfl) (by kernel_rfl) ?_
            refine held_one (n := 1) 13 _ rfl (by kernel_rfl) (by kernel_rfl) (e_box 65 _ (.agg #[.slice A1134 y974.length c1135, .slice (some ⟨b1131, 0, none⟩) a0.N.toNat a0.N.toNat, .slice (some ⟨b1085, 0, none⟩) a0.N.toNat a0.N.toNat, .slice (some ⟨b1121, 0, none⟩) a0.N.toNat a0.N.toNat, .slice none 0 0, .int .i64 0, .int .i64 0]) [.slice A1134 y974.length c1135, .slice (some ⟨b1131, 0, none⟩) a0.N.toNat a0.N.toNat, .slice (some ⟨b1085, 0, none⟩) a0.N.toNat a0.N.toNat, .slice (some ⟨b1121, 0, none⟩) a0.N.toNat a0.N.toNat, .slice none 0 0, .int .i64 0, .int .i64 0] rfl (by kernel_rfl) rfl hI ?_)
            clear hI
            intro b1137 _ hI
            refine ⟨(hI.pick [0] (by decide) rfl), ?_⟩
            refine held_batch (n := 0) [] [(14, .p)] [(7, .pointer (some ⟨b1137, 0, none⟩))] [] [true, true, true, true, true, true, true, true, true, true, true, true, true, true, true] (by kernel_rfl) (fun w hS => trivial) (hI.pick [0] (by decide) rfl) trivial (by kernel_rfl) (by kernel_rfl) (by kernel_rfl) ?_
            refine held_done (by kernel_rfl) ?_
            replace hI := hI.renum 1 rfl
            replace hI := hI.renum 2 rfl
            replace hI := hI.renum 3 rfl
            replace hI := hI.recell 5 [.slice A1134 y974.length c1135, .slice (some ⟨b1131, 0, none⟩) ((List.replicate a0.N.toNat (default : Int)).length) a0.N.toNat, .slice (some ⟨b1085, 0, none⟩) ((List.replicate a0.N.toNat (default : Int)).length) a0.N.toNat, .slice (some ⟨b1121, 0, none⟩) ((List.replicate a0.N.toNat (default : Int)).length) a0.N.toNat, .slice none 0 0, .int .i64 0, .int .i64 0] (by first | rfl | simp only [List.length_set, List.length_replicate, List.length_nil]) rfl
            exact hJ238 y974 _ _ ⟨_, b1137, A1134, c1135, (some ⟨b1131, 0, none⟩), a0.N.toNat, (some ⟨b1085, 0, none⟩), a0.N.toNat, (some ⟨b1121, 0, none⟩), a0.N.toNat, at_slots _ (by kernel_rfl), hI.pick [0, 5, 4, 3, 1, 2] (by decide) rfl⟩ H
      · refine (e_make (tInt .i64) (default : Int) 43 3 _ _ _ (.int .i64 0) a0.N rfl rfl rfl rfl rfl rfl (fun _ => rfl) (by kernel_rfl) (by kernel_rfl) g978 hI ?_)
        clear hI
        intro b1138 _ hI
        refine ⟨(hI.pick [0] (by decide) rfl), ?_⟩
        refine held_each (n := 5) [2, 5, 8] (by simp) (by kernel_rfl) ⟨⟨_, rfl, by kernel_rfl, ?_⟩, ⟨_, rfl, by kernel_rfl, ?_⟩, ⟨_, rfl, by kernel_rfl, ?_⟩, trivial⟩
        · refine (e_callf _ _ _ 32 #[] #[] #[.agg #[.int .i64 a0.N, .slice A0z0 a0.Edges.length c0z0], .int .i64 a1] #[.agg #[.int .i64 a0.N, .slice A0z0 a0.Edges.length c0z0], .int .i64 a1] rfl (by kernel_rfl) (by kernel_rfl) (by kernel_rfl) (enter32 _) (graph_rows_calls a0 A0z0 c0z0 a1 (memOf _) _ (Inv.start _) (hI.rd hr0z0) hl0z0 _ hy975) ?_)
          rintro _ _ ⟨A1143, c1144, rfl, hI'⟩
          replace hI := hI.call0 hI'
          clear hI'
          refine ⟨_, rfl, ?_⟩
          refine ⟨(hI.pick [0] (by decide) rfl), ?_⟩
          refine held_each (n := 4) [5, 8] (by simp) (by kernel_rfl) ⟨⟨_, rfl, by kernel_rfl, ?_⟩, ⟨_, rfl, by kernel_rfl, ?_⟩, trivial⟩
          · refine (e_make (tInt .i64) (default : Int) 43 3 _ _ _ (.int .i64 0) a0.N rfl rfl rfl rfl rfl rfl (fun _ => rfl) (by kernel_rfl) (by kernel_rfl) g978 hI ?_)
            clear hI
            intro b1147 _ hI
            refine ⟨(hI.pick [0] (by decide) rfl), ?_⟩
            refine held_one (n := 3) 8 _ rfl (by kernel_rfl) (by kernel_rfl) (e_make (tInt .i64) (default : Int) 43 3 _ _ _ (.int .i64 0) a0.N rfl rfl rfl rfl rfl rfl (fun _ => rfl) (by kernel_rfl) (by kernel_rfl) g978 hI ?_)
            clear hI
            intro b1149 _ hI
            refine ⟨(hI.pick [0] (by decide) rfl), ?_⟩
            refine held_batch (n := 2) [] [(12, .p)] [(26, .agg #[.slice A1143 y974.length c1144, .slice (some ⟨b1147, 0, none⟩) a0.N.toNat a0.N.toNat, .slice (some ⟨b1149, 0, none⟩) a0.N.toNat a0.N.toNat, .slice (some ⟨b1138, 0, none⟩) a0.N.toNat a0.N.toNat, .slice none 0 0, .int .i64 0, .int .i64 0])] [] [true, true, true, true, true, true, true, true, true, true, true, true, true, false, false] (by kernel_rfl) (fun w hS => trivial) (hI.pick [0] (by decide) rfl) trivial (by kernel_rfl) (by kernel_rfl) (by kernel_rfl) ?_
            refine held_one (n := 1) 13 _ rfl (by kernel_rfl) (by kernel_rfl) (e_box 65 _ (.agg #[.slice A1143 y974.length c1144, .slice (some ⟨b1147, 0, none⟩) a0.N.toNat a0.N.toNat, .slice (some ⟨b1149, 0, none⟩) a0.N.toNat a0.N.toNat, .slice (some ⟨b1138, 0, none⟩) a0.N.toNat a0.N.toNat, .slice none 0 0, .int .i64 0, .int .i64 0]) [.slice A1143 y974.length c1144, .slice (some ⟨b1147, 0, none⟩) a0.N.toNat a0.N.toNat, .slice (some ⟨b1149, 0, none⟩) a0.N.toNat a0.N.toNat, .slice (some ⟨b1138, 0, none⟩) a0.N.toNat a0.N.toNat, .slice none 0 0, .int .i64 0, .int .i64 0] rfl (by kernel_rfl) rfl hI ?_)
            clear hI
            intro b1151 _ hI
            refine ⟨(hI.pick [0] (by decide) rfl), ?_⟩
            refine held_batch (n := 0) [] [(14, .p)] [(7, .pointer (some ⟨b1151, 0, none⟩))] [] [true, true, true, true, true, true, true, true, true, true, true, true, true, true, true] (by kernel_rfl) (fun w hS => trivial) (hI.pick [0] (by decide) rfl) trivial (by kernel_rfl) (by kernel_rfl) (by kernel_rfl) ?_
            refine held_done (by kernel_rfl) ?_
            replace hI := hI.renum 1 rfl
            replace hI := hI.renum 3 rfl
            replace hI := hI.renum 4 rfl
            replace hI := hI.recell 5 [.slice A1143 y974.length c1144, .slice (some ⟨b1147, 0, none⟩) ((List.replicate a0.N.toNat (default : Int)).length) a0.N.toNat, .slice (some ⟨b1149, 0, none⟩) ((List.replicate a0.N.toNat (default : Int)).length) a0.N.toNat, .slice (some ⟨b1138, 0, none⟩) ((List.replicate a0.N.toNat (default : Int)).length) a0.N.toNat, .slice none 0 0, .int .i64 0, .int .i64 0] (by first | rfl | simp only [List.length_set, List.length_replicate, List.length_nil]) rfl
            exact hJ238 y974 _ _ ⟨_, b1151, A1143, c1144, (some ⟨b1147, 0, none⟩), a0.N.toNat, (some ⟨b1149, 0, none⟩), a0.N.toNat, (some ⟨b1138, 0, none⟩), a0.N.toNat, at_slots _ (by kernel_rfl), hI.pick [0, 5, 2, 3, 4, 1] (by decide) rfl⟩ H
          · refine (e_make (tInt .i64) (default : Int) 43 3 _ _ _ (.int .i64 0) a0.N rfl rfl rfl rfl rfl rfl (fun _ => rfl) (by kernel_rfl) (by kernel_rfl) g978 hI ?_)
            clear hI
            intro b1152 _ hI
            refine ⟨(hI.pick [0] (by decide) rfl), ?_⟩
            refine held_one (n := 3) 5 _ rfl (by kernel_rfl) (by kernel_rfl) (e_make (tInt .i64) (default : Int) 43 3 _ _ _ (.int .i64 0) a0.N rfl rfl rfl rfl rfl rfl (fun _ => rfl) (by kernel_rfl) (by kernel_rfl) g978 hI ?_)
            clear hI
            intro b1154 _ hI
            refine ⟨(hI.pick [0] (by decide) rfl), ?_⟩
            refine held_batch (n := 2) [] [(12, .p)] [(26, .agg #[.slice A1143 y974.length c1144, .slice (some ⟨b1154, 0, none⟩) a0.N.toNat a0.N.toNat, .slice (some ⟨b1152, 0, none⟩) a0.N.toNat a0.N.toNat, .slice (some ⟨b1138, 0, none⟩) a0.N.toNat a0.N.toNat, .slice none 0 0, .int .i64 0, .int .i64 0])] [] [true, true, true, true, true, true, true, true, true, true, true, true, true, false, false] (by kernel_rfl) (fun w hS => trivial) (hI.pick [0] (by decide) rfl) trivial (by kernel_rfl) (by kernel_rfl) (by kernel_rfl) ?_
            refine held_one (n := 1) 13 _ rfl (by kernel_rfl) (by kernel_rfl) (e_box 65 _ (.agg #[.slice A1143 y974.length c1144, .slice (some ⟨b1154, 0, none⟩) a0.N.toNat a0.N.toNat, .slice (some ⟨b1152, 0, none⟩) a0.N.toNat a0.N.toNat, .slice (some ⟨b1138, 0, none⟩) a0.N.toNat a0.N.toNat, .slice none 0 0, .int .i64 0, .int .i64 0]) [.slice A1143 y974.length c1144, .slice (some ⟨b1154, 0, none⟩) a0.N.toNat a0.N.toNat, .slice (some ⟨b1152, 0, none⟩) a0.N.toNat a0.N.toNat, .slice (some ⟨b1138, 0, none⟩) a0.N.toNat a0.N.toNat, .slice none 0 0, .int .i64 0, .int .i64 0] rfl (by kernel_rfl) rfl hI ?_)
            clear hI
            intro b1156 _ hI
            refine ⟨(hI.pick [0] (by decide) rfl), ?_⟩
            refine held_batch (n := 0) [] [(14, .p)] [(7, .pointer (some ⟨b1156, 0, none⟩))] [] [true, true, true, true, true, true, true, true, true, true, true, true, true, true, true] (by kernel_rfl) (fun w hS => trivial) (hI.pick [0] (by decide) rfl) trivial (by kernel_rfl) (by kernel_rfl) (by kernel_rfl) ?_
            refine held_done (by kernel_rfl) ?_
            replace hI := hI.renum 1 rfl
            replace hI := hI.renum 3 rfl
            replace hI := hI.renum 4 rfl
            replace hI := hI.recell 5 [.slice A1143 y974.length c1144, .slice (some ⟨b1154, 0, none⟩) ((List.replicate a0.N.toNat (default : Int)).length) a0.N.toNat, .slice (some ⟨b1152, 0, none⟩) ((List.replicate a0.N.toNat (default : Int)).length) a0.N.toNat, .slice (some ⟨b1138, 0, none⟩) ((List.replicate a0.N.toNat (default : Int)).length) a0.N.toNat, .slice none 0 0, .int .i64 0, .int .i64 0] (by first | rfl | simp only [List.length_set, List.length_replicate, List.length_nil]) rfl
            exact hJ238 y974 _ _ ⟨_, b1156, A1143, c1144, (some ⟨b1154, 0, none⟩), a0.N.toNat, (some ⟨b1152, 0, none⟩), a0.N.toNat, (some ⟨b1138, 0, none⟩), a0.N.toNat, at_slots _ (by kernel_rfl), hI.pick [0, 5, 2, 4, 3, 1] (by decide) rfl⟩ H
        · refine (e_make (tInt .i64) (default : Int) 43 3 _ _ _ (.int .i64 0) a0.N rfl rfl rfl rfl rfl rfl (fun _ => rfl) (by kernel_rfl) (by kernel_rfl) g978 hI ?_)
          clear hI
          intro b1157 _ hI
          refine ⟨(hI.pick [0] (by decide) rfl), ?_⟩
          refine held_each (n := 4) [2, 8] (by simp) (by kernel_rfl) ⟨⟨_, rfl, by kernel_rfl, ?_⟩, ⟨_, rfl, by kernel_rfl, ?_⟩, trivial⟩
          · refine (e_callf _ _ _ 32 #[] #[] #[.agg #[.int .i64 a0.N, .slice A0z0 a0.Edges.length c0z0], .int .i64 a1] #[.agg #[.int .i64 a0.N, .slice A0z0 a0.Edges.length c0z0], .int .i64 a1] rfl (by kernel_rfl) (by kernel_rfl) (by kernel_rfl) (enter32 _) (graph_rows_calls a0 A0z0 c0z0 a1 (memOf _) _ (Inv.start _) (hI.rd hr0z0) hl0z0 _ hy975) ?_)
            rintro _ _ ⟨A1161, c1162, rfl, hI'⟩
            replace hI := hI.call0 hI'
            clear hI'
            refine ⟨_, rfl, ?_⟩
            refine ⟨(hI.pick [0] (by decide) rfl), ?_⟩
            refine held_one (n := 3) 8 _ rfl (by kernel_rfl) (by kernel_rfl) (e_make (tInt .i64) (default : Int) 43 3 _ _ _ (.int .i64 0) a0.N rfl rfl rfl rfl rfl rfl (fun _ => rfl) (by kernel_rfl) (by kernel_rfl) g978 hI ?_)
            clear hI
            intro b1164 _ hI
            refine ⟨(hI.pick [0] (by decide) rfl), ?_⟩
            refine held_batch (n := 2) [] [(12, .p)] [(26, .agg #[.slice A1161 y974.length c1162, .slice (some ⟨b1157, 0, none⟩) a0.N.toNat a0.N.toNat, .slice (some ⟨b1164, 0, none⟩) a0.N.toNat a0.N.toNat, .slice (some ⟨b1138, 0, none⟩) a0.N.toNat a0.N.toNat, .slice none 0 0, .int .i64 0, .int .i64 0])] [] [true, true, true, true, true, true, true, true, true, true, true, true, true, false, false] (by kernel_rfl) (fun w hS => trivial) (hI.pick [0] (by decide) rfl) trivial (by kernel_rfl) (by kernel_rfl) (by kernel_rfl) ?_
            refine held_one (n := 1) 13 _ rfl (by kernel_rfl) (by kernel_rfl) (e_box 65 _ (.agg #[.slice A1161 y974.length c1162, .slice (some ⟨b1157, 0, none⟩) a0.N.toNat a0.N.toNat, .slice (some ⟨b1164, 0, none⟩) a0.N.toNat a0.N.toNat, .slice (some ⟨b1138, 0, none⟩) a0.N.toNat a0.N.toNat, .slice none 0 0, .int .i64 0, .int .i64 0]) [.slice A1161 y974.length c1162, .slice (some ⟨b1157, 0, none⟩) a0.N.toNat a0.N.toNat, .slice (some ⟨b1164, 0, none⟩) a0.N.toNat a0.N.toNat, .slice (some ⟨b1138, 0, none⟩) a0.N.toNat a0.N.toNat, .slice none 0 0, .int .i64 0, .int .i64 0] rfl (by kernel_rfl) rfl hI ?_)
            clear hI
            intro b1166 _ hI
            refine ⟨(hI.pick [0] (by decide) rfl), ?_⟩
            refine held_batch (n := 0) [] [(14, .p)] [(7, .pointer (some ⟨b1166, 0, none⟩))] [] [true, true, true, true, true, true, true, true, true, true, true, true, true, true, true] (by kernel_rfl) (fun w hS => trivial) (hI.pick [0] (by decide) rfl) trivial (by kernel_rfl) (by kernel_rfl) (by kernel_rfl) ?_
            refine held_done (by kernel_rfl) ?_
            replace hI := hI.renum 1 rfl
            replace hI := hI.renum 2 rfl
            replace hI := hI.renum 4 rfl
            replace hI := hI.recell 5 [.slice A1161 y974.length c1162, .slice (some ⟨b1157, 0, none⟩) ((List.replicate a0.N.toNat (default : Int)).length) a0.N.toNat, .slice (some ⟨b1164, 0, none⟩) ((List.replicate a0.N.toNat (default : Int)).length) a0.N.toNat, .slice (some ⟨b1138, 0, none⟩) ((List.replicate a0.N.toNat (default : Int)).length) a0.N.toNat, .slice none 0 0, .int .i64 0, .int .i64 0] (by first | rfl | simp only [List.length_set, List.length_replicate, List.length_nil]) rfl
            exact hJ238 y974 _ _ ⟨_, b1166, A1161, c1162, (some ⟨b1157, 0, none⟩), a0.N.toNat, (some ⟨b1164, 0, none⟩), a0.N.toNat, (some ⟨b1138, 0, none⟩), a0.N.toNat, at_slots _ (by kernel_rfl), hI.pick [0, 5, 3, 2, 4, 1] (by decide) rfl⟩ H
          · refine (e_make (tInt .i64) (default : Int) 43 3 _ _ _ (.int .i64 0) a0.N rfl rfl rfl rfl rfl rfl (fun _ => rfl) (by kernel_rfl) (by kernel_rfl) g978 hI ?_)
            clear hI
            intro b1167 _ hI
            refine ⟨(hI.pick [0] (by decide) rfl), ?_⟩
            refine held_one (n := 3) 2 _ rfl (by kernel_rfl) (by kernel_rfl) (e_callf _ _ _ 32 #[] #[] #[.agg #[.int .i64 a0.N, .slice A0z0 a0.Edges.length c0z0], .int .i64 a1] #[.agg #[.int .i64 a0.N, .slice A0z0 a0.Edges.length c0z0], .int .i64 a1] rfl (by kernel_rfl) (by kernel_rfl) (by kernel_rfl) (enter32 _) (graph_rows_calls a0 A0z0 c0z0 a1 (memOf _) _ (Inv.start _) (hI.rd hr0z0) hl0z0 _ hy975) ?_)
            rintro _ _ ⟨A1170, c1171, rfl, hI'⟩
            replace hI := hI.call0 hI'
            clear hI'
            refine ⟨_, rfl, ?_⟩
            refine ⟨(hI.pick [0] (by decide) rfl), ?_⟩
            refine held_batch (n := 2) [] [(12, .p)] [(26, .agg #[.slice A1170 y974.length c1171, .slice (some ⟨b1157, 0, none⟩) a0.N.toNat a0.N.toNat, .slice (some ⟨b1167, 0, none⟩) a0.N.toNat a0.N.toNat, .slice (some ⟨b1138, 0, none⟩) a0.N.toNat a0.N.toNat, .slice none 0 0, .int .i64 0, .int .i64 0])] [] [true, true, true, true, true, true, true, true, true, true, true, true, true, false, false] (by kernel_rfl) (fun w hS => trivial) (hI.pick [0] (by decide) rfl) trivial (by kernel_rfl) (by kernel_rfl) (by kernel_rfl) ?_
            refine held_one (n := 1) 13 _ rfl (by kernel_rfl) (by kernel_rfl) (e_box 65 _ (.agg #[.slice A1170 y974.length c1171, .slice (some ⟨b1157, 0, none⟩) a0.N.toNat a0.N.toNat, .slice (some ⟨b1167, 0, none⟩) a0.N.toNat a0.N.toNat, .slice (some ⟨b1138, 0, none⟩) a0.N.toNat a0.N.toNat, .slice none 0 0, .int .i64 0, .int .i64 0]) [.slice A1170 y974.length c1171, .slice (some ⟨b1157, 0, none⟩) a0.N.toNat a0.N.toNat, .slice (some ⟨b1167, 0, none⟩) a0.N.toNat a0.N.toNat, .slice (some ⟨b1138, 0, none⟩) a0.N.toNat a0.N.toNat, .slice none 0 0, .int .i64 0, .int .i64 0] rfl (by kernel_rfl) rfl hI ?_)
            clear hI
            intro b1173 _ hI
            refine ⟨(hI.pick [0] (by decide) rfl), ?_⟩
            refine held_batch (n := 0) [] [(14, .p)] [(7, .pointer (some ⟨b1173, 0, none⟩))] [] [true, true, true, true, true, true, true, true, true, true, true, true, true, true, true] (by kernel_rfl) (fun w hS => trivial) (hI.pick [0] (by decide) rfl) trivial (by kernel_rfl) (by kernel_rfl) (by kernel_rfl) ?_
            refine held_done (by kernel_rfl) ?_
            replace hI := hI.renum 1 rfl
            replace hI := hI.renum 2 rfl
            replace hI := hI.renum 3 rfl
            replace hI := hI.recell 5 [.slice A1170 y974.length c1171, .slice (some ⟨b1157, 0, none⟩) ((List.replicate a0.N.toNat (default : Int)).length) a0.N.toNat, .slice (some ⟨b1167, 0, none⟩) ((List.replicate a0.N.toNat (default : Int)).length) a0.N.toNat, .slice (some ⟨b1138, 0, none⟩) ((List.replicate a0.N.toNat (default : Int)).length) a0.N.toNat, .slice none 0 0, .int .i64 0, .int .i64 0] (by first | rfl | simp only [List.length_set, List.length_replicate, List.length_nil]) rfl
            exact hJ238 y974 _ _ ⟨_, b1173, A1170, c1171, (some ⟨b1157, 0, none⟩), a0.N.toNat, (some ⟨b1167, 0, none⟩), a0.N.toNat, (some ⟨b1138, 0, none⟩), a0.N.toNat, at_slots _ (by kernel_rfl), hI.pick [0, 5, 4, 2, 3, 1] (by decide) rfl⟩ H
        · refine (e_make (tInt .i64) (default : Int) 43 3 _ _ _ (.int .i64 0) a0.N rfl rfl rfl rfl rfl rfl (fun _ => rfl) (by kernel_rfl) (by kernel_rfl) g978 hI ?_)
          clear hI
          intro b1174 _ hI
          refine ⟨(hI.pick [0] (by decide) rfl), ?_⟩
          refine held_each (n := 4) [2, 5] (by simp) (by kernel_rfl) ⟨⟨_, rfl, by kernel_rfl, ?_⟩, ⟨_, rfl, by kernel_rfl, ?_⟩, trivial⟩
          · refine (e_callf _ _ _ 32 #[] #[] #[.agg #[.int .i64 a0.N, .slice A0z0 a0.Edges.length c0z0], .int .i64 a1] #[.agg #[.int .i64 a0.N, .slice A0z0 a0.Edges.length c0z0], .int .i64 a1] rfl (by kernel_rfl) (by kernel_rfl) (by kernel_rfl) (enter32 _) (graph_rows_calls a0 A0z0 c0z0 a1 (memOf _) _ (Inv.start _) (hI.rd hr0z0) hl0z0 _ hy975) ?_)
            rintro _ _ ⟨A1178, c1179, rfl, hI'⟩
            replace hI := hI.call0 hI'
            clear hI'
            refine ⟨_, rfl, ?_⟩
            refine ⟨(hI.pick [0] (by decide) rfl), ?_⟩
            refine held_one (n := 3) 5 _ rfl (by kernel_rfl) (by kernel_rfl) (e_make (tInt .i64) (default : Int) 43 3 _ _ _ (.int .i64 0) a0.N rfl rfl rfl rfl rfl rfl (fun _ => rfl) (by kernel_rfl) (by kernel_rfl) g978 hI ?_)
            clear hI
            intro b1181 _ hI
            refine ⟨(hI.pick [0] (by decide) rfl), ?_⟩
            refine held_batch (n := 2) [] [(12, .p)] [(26, .agg #[.slice A1178 y974.length c1179, .slice (some ⟨b1181, 0, none⟩) a0.N.toNat a0.N.toNat, .slice (some ⟨b1174, 0, none⟩) a0.N.toNat a0.N.toNat, .slice (some ⟨b1138, 0, none⟩) a0.N.toNat a0.N.toNat, .slice none 0 0, .int .i64 0, .int .i64 0])] [] [true, true, true, true, true, true, true, true, true, true, true, true, true, false, false] (by kernel_rfl) (fun w hS => trivial) (hI.pick [0] (by decide) rfl) trivial (by kernel_rfl) (by kernel_rfl) (by kernel_rfl) ?_
            refine held_one (n := 1) 13 _ rfl (by kernel_rfl) (by kernel_rfl) (e_box 65 _ (.agg #[.slice A1178 y974.length c1179, .slice (some ⟨b1181, 0, none⟩) a0.N.toNat a0.N.toNat, .slice (some ⟨b1174, 0, none⟩) a0.N.toNat a0.N.toNat, .slice (some ⟨b1138, 0, none⟩) a0.N.toNat a0.N.toNat, .slice none 0 0, .int .i64 0, .int .i64 0]) [.slice A1178 y974.length c1179, .slice (some ⟨b1181, 0, none⟩) a0.N.toNat a0.N.toNat, .slice (some ⟨b1174, 0, none⟩) a0.N.toNat a0.N.toNat, .slice (some ⟨b1138, 0, none⟩) a0.N.toNat a0.N.toNat, .slice none 0 0, .int .i64 0, .int .i64 0] rfl (by kernel_rfl) rfl hI ?_)
            clear hI
            intro b1183 _ hI
            refine ⟨(hI.pick [0] (by decide) rfl), ?_⟩
            refine held_batch (n := 0) [] [(14, .p)] [(7, .pointer (some ⟨b1183, 0, none⟩))] [] [true, true, true, true, true, true, true, true, true, true, true, true, true, true, true] (by kernel_rfl) (fun w hS => trivial) (hI.pick [0] (by decide) rfl) trivial (by kernel_rfl) (by kernel_rfl) (by kernel_rfl) ?_
            refine held_done (by kernel_rfl) ?_
            replace hI := hI.renum 1 rfl
            replace hI := hI.renum 2 rfl
            replace hI := hI.renum 4 rfl
            replace hI := hI.recell 5 [.slice A1178 y974.length c1179, .slice (some ⟨b1181, 0, none⟩) ((List.replicate a0.N.toNat (default : Int)).length) a0.N.toNat, .slice (some ⟨b1174, 0, none⟩) ((List.replicate a0.N.toNat (default : Int)).length) a0.N.toNat, .slice (some ⟨b1138, 0, none⟩) ((List.replicate a0.N.toNat (default : Int)).length) a0.N.toNat, .slice none 0 0, .int .i64 0, .int .i64 0] (by first | rfl | simp only [List.length_set, List.length_replicate, List.length_nil]) rfl
            exact hJ238 y974 _ _ ⟨_, b1183, A1178, c1179, (some ⟨b1181, 0, none⟩), a0.N.toNat, (some ⟨b1174, 0, none⟩), a0.N.toNat, (some ⟨b1138, 0, none⟩), a0.N.toNat, at_slots _ (by kernel_rfl), hI.pick [0, 5, 3, 4, 2, 1] (by decide) rfl⟩ H
          · refine (e_make (tInt .i64) (default : Int) 43 3 _ _ _ (.int .i64 0) a0.N rfl rfl rfl rfl rfl rfl (fun _ => rfl) (by kernel_rfl) (by kernel_rfl) g978 hI ?_)
            clear hI
            intro b1184 _ hI
            refine ⟨(hI.pick [0] (by decide) rfl), ?_⟩
            refine held_one (n := 3) 2 _ rfl (by kernel_rfl) (by kernel_rfl) (e_callf _ _ _ 32 #[] #[] #[.agg #[.int .i64 a0.N, .slice A0z0 a0.Edges.length c0z0], .int .i64 a1] #[.agg #[.int .i64 a0.N, .slice A0z0 a0.Edges.length c0z0], .int .i64 a1] rfl (by kernel_rfl) (by kernel_rfl) (by kernel_rfl) (enter32 _) (graph_rows_calls a0 A0z0 c0z0 a1 (memOf _) _ (Inv.start _) (hI.rd hr0z0) hl0z0 _ hy975) ?_)
            rintro _ _ ⟨A1187, c1188, rfl, hI'⟩
            replace hI := hI.call0 hI'
            clear hI'
            refine ⟨_, rfl, ?_⟩
            refine ⟨(hI.pick [0] (by decide) rfl), ?_⟩
            refine held_batch (n := 2) [] [(12, .p)] [(26, .agg #[.slice A1187 y974.length c1188, .slice (some ⟨b1184, 0, none⟩) a0.N.toNat a0.N.toNat, .slice (some ⟨b1174, 0, none⟩) a0.N.toNat a0.N.toNat, .slice (some ⟨b1138, 0, none⟩) a0.N.toNat a0.N.toNat, .slice none 0 0, .int .i64 0, .int .i64 0])] [] [true, true, true, true, true, true, true, true, true, true, true, true, true, false, false] (by kernel_rfl) (fun w hS => trivial) (hI.pick [0] (by decide) rfl) trivial (by kernel_rfl) (by kernel_rfl) (by kernel_rfl) ?_
            refine held_one (n := 1) 13 _ rfl (by kernel_rfl) (by kernel_rfl) (e_box 65 _ (.agg #[.slice A1187 y974.length c1188, .slice (some ⟨b1184, 0, none⟩) a0.N.toNat a0.N.toNat, .slice (some ⟨b1174, 0, none⟩) a0.N.toNat a0.N.toNat, .slice (some ⟨b1138, 0, none⟩) a0.N.toNat a0.N.toNat, .slice none 0 0, .int .i64 0, .int .i64 0]) [.slice A1187 y974.length c1188, .slice (some ⟨b1184, 0, none⟩) a0.N.toNat a0.N.toNat, .slice (some ⟨b1174, 0, none⟩) a0.N.toNat a0.N.toNat, .slice (some ⟨b1138, 0, none⟩) a0.N.toNat a0.N.toNat, .slice none 0 0, .int .i64 0, .int .i64 0] rfl (by kernel_rfl) rfl hI ?_)
            clear hI
            intro b1190 _ hI
            refine ⟨(hI.pick [0] (by decide) rfl), ?_⟩
            refine held_batch (n := 0) [] [(14, .p)] [(7, .pointer (some ⟨b1190, 0, none⟩))] [] [true, true, true, true, true, true, true, true, true, true, true, true, true, true, true] (by kernel_rfl) (fun w hS => trivial) (hI.pick [0] (by decide) rfl) trivial (by kernel_rfl) (by kernel_rfl) (by kernel_rfl) ?_
            refine held_done (by kernel_rfl) ?_
            replace hI := hI.renum 1 rfl
            replace hI := hI.renum 2 rfl
            replace hI := hI.renum 3 rfl
            replace hI := hI.recell 5 [.slice A1187 y974.length c1188, .slice (some ⟨b1184, 0, none⟩) ((List.replicate a0.N.toNat (default : Int)).length) a0.N.toNat, .slice (some ⟨b1174, 0, none⟩) ((List.replicate a0.N.toNat (default : Int)).length) a0.N.toNat, .slice (some ⟨b1138, 0, none⟩) ((List.replicate a0.N.toNat (default : Int)).length) a0.N.toNat, .slice none 0 0, .int .i64 0, .int .i64 0] (by first | rfl | simp only [List.length_set, List.length_replicate, List.length_nil]) rfl
            exact hJ238 y974 _ _ ⟨_, b1190, A1187, c1188, (some ⟨b1184, 0, none⟩), a0.N.toNat, (some ⟨b1174, 0, none⟩), a0.N.toNat, (some ⟨b1138, 0, none⟩), a0.N.toNat, at_slots _ (by kernel_rfl), hI.pick [0, 5, 4, 3, 2, 1] (by decide) rfl⟩ H

/-! ### assizelaw06.GraphRounds -/
theorem enter7 (a : Array Value) : Sem.pureRun Tryd.prog (callFunc 7 a) = some (.enter 7 a) := by kernel_rfl
theorem assizelaw06zGraphRounds_calls (a0 : Graph) (A0z0 : Option Addr) (c0z0 : Nat) (a1 : Int) (M : Mem) (w : World) (hI : Inv M w []) (hT : TabM M.blk) (hr0z0 : rdS kEdge M.blk A0z0 a0.Edges) (hl0z0 : a0.Edges.length ≤ c0z0) (r : Bool) (H : assizelaw06zGraphRounds a0 a1 = some r) :
    Calls Tryd.prog 7 #[.agg #[.int .i64 a0.N, .slice A0z0 a0.Edges.length c0z0], .int .i64 a1] w fun e w' => e = .returned (.bool r) ∧ Inv M w' [] := by
  refine calls_go (updL (fun _ => undef) [(0, .agg #[.int .i64 a0.N, .slice A0z0 a0.Edges.length c0z0]), (1, .int .i64 a1)]) Tryd.func7 rfl (by kernel_rfl) ?_
  intro cs
  unfold assizelaw06zGraphRounds at H
  refine go_seq ?_
  refine r_in ?_
  refine o_eff 0 _ rfl (by kernel_rfl) ?_
  refine e_box 24 _ (.agg #[.int .i64 a0.N, .slice A0z0 a0.Edges.length c0z0]) [.int .i64 a0.N, .slice A0z0 a0.Edges.length c0z0] rfl (by kernel_rfl) rfl hI ?_
  clear hI
  intro b2 _ hI
  refine o_batch 1 [] [.p] [(4, .bool false)] [] trivial trivial (by kernel_rfl) (by kernel_rfl) (by kernel_rfl) ?_
  refine r_out (by kernel_rfl) ?_
  refine go_seq ?_
  refine go_seq ?_
  refine r_in ?_
  replace H := bind_some H
  obtain ⟨y8, hy9, H⟩ := H
  refine o_eff 0 _ rfl (by kernel_rfl) ?_
  refine e_callf _ _ _ 10 #[] #[] #[] #[] rfl (by kernel_rfl) (by kernel_rfl) (by kernel_rfl) (enter10 _) (assizelaw06zalive_calls (memOf _) _ (Inv.start _) (hI.rd hT) _ hy9) ?_
  rintro _ _ ⟨rfl, hI'⟩
  replace hI := hI.call0 hI'
  clear hI'
  refine ⟨_, rfl, ?_⟩
  refine o_batch 1 [] [.p] [(22, .bool (!y8))] [] trivial trivial (by kernel_rfl) (by kernel_rfl) (by kernel_rfl) ?_
  refine r_out (by kernel_rfl) ?_
  replace H := cond_some H
  rcases H with ⟨hc10, H⟩ | ⟨hc10, H⟩
  · refine go_then' (t := !y8) (by kernel_rfl) hc10 ?_
    refine go_seq ?_
    refine r_in ?_
    refine o_batch 0 [] [.p] [(4, .bool false)] [] trivial trivial (by kernel_rfl) (by kernel_rfl) (by kernel_rfl) ?_
    refine r_out (by kernel_rfl) ?_
    replace H := Option.some.inj H
    subst H
    exact go_return (.bool false) Tryd.func7 (by kernel_rfl) ⟨rfl, hI.pick [] (by decide) rfl⟩
  · refine go_else' (t := !y8) (by kernel_rfl) hc10 ?_
    refine go_skip ?_
    refine go_seq ?_
    refine r_in ?_
    refine o_batch 0 [(b2, 0, [.int .i64 a0.N, .slice A0z0 a0.Edges.length c0z0])] [.l 0 0, .p] [(24, .agg #[.int .i64 a0.N, .slice A0z0 a0.Edges.length c0z0]), (25, .int .i64 a1)] [] ⟨(hI.grp 0 rfl), trivial⟩ trivial (by kernel_rfl) (by kernel_rfl) (by kernel_rfl) ?_
    replace H := bind_some H
    obtain ⟨y15, hy16, H⟩ := H
    refine o_eff 2 _ rfl (by kernel_rfl) ?_
    refine e_callf _ _ _ 14 #[] #[] #[.agg #[.int .i64 a0.N, .slice A0z0 a0.Edges.length c0z0], .int .i64 a1] #[.agg #[.int .i64 a0.N, .slice A0z0 a0.Edges.length c0z0], .int .i64 a1] rfl (by kernel_rfl) (by kernel_rfl) (by kernel_rfl) (enter14 _) (graph_Closure_calls a0 A0z0 c0z0 a1 (memOf _) _ (Inv.start _) (hI.rd hT) (hI.rd hr0z0) hl0z0 _ hy16) ?_
    rintro _ _ ⟨A17, c18, rfl, hI'⟩
    replace hI := hI.call0 hI'
    clear hI'
    refine ⟨_, rfl, ?_⟩
    refine o_batch 3 [] [.p, .p, .p, .p, .p] [(23, .tuple #[.slice A17 y15.1.length c18, .int .i64 y15.2]), (27, .slice A17 y15.1.length c18), (28, .int .i64 y15.2), (5, .slice A17 y15.1.length c18), (6, .int .i64 y15.2)] [] trivial trivial (by kernel_rfl) (by kernel_rfl) (by kernel_rfl) ?_
    refine r_out (by kernel_rfl) ?_
    refine go_seq ?_
    refine r_in ?_
    refine o_batch 0 [(b2, 0, [.int .i64 a0.N, .slice A0z0 a0.Edges.length c0z0])] [.l 0 0, .p] [(30, .agg #[.int .i64 a0.N, .slice A0z0 a0.Edges.length c0z0]), (31, .int .i64 a1)] [] ⟨(hI.grp 0 rfl), trivial⟩ trivial (by kernel_rfl) (by kernel_rfl) (by kernel_rfl) ?_
    replace H := bind_some H
    obtain ⟨y23, hy24, H⟩ := H
    refine o_eff 2 _ rfl (by kernel_rfl) ?_
    refine e_callf _ _ _ 21 #[] #[] #[.agg #[.int .i64 a0.N, .slice A0z0 a0.Edges.length c0z0], .int .i64 a1] #[.agg #[.int .i64 a0.N, .slice A0z0 a0.Edges.length c0z0], .int .i64 a1] rfl (by kernel_rfl) (by kernel_rfl) (by kernel_rfl) (enter21 _) (graph_Order_calls a0 A0z0 c0z0 a1 (memOf _) _ (Inv.start _) (hI.rd hT) (hI.rd hr0z0) hl0z0 _ hy24) ?_
    rintro _ _ ⟨A25, c26, rfl, hI'⟩
    replace hI := hI.call0 hI'
    clear hI'
    refine ⟨_, rfl, ?_⟩
    refine o_batch 3 [] [.p, .p, .p, .p, .p, .p, .p] [(29, .tuple #[.slice A25 y23.1.length c26, .bool y23.2.1, .int .i64 y23.2.2]), (33, .slice A25 y23.1.length c26), (34, .bool y23.2.1), (35, .int .i64 y23.2.2), (7, .slice A25 y23.1.length c26), (8, .bool y23.2.1), (9, .int .i64 y23.2.2)] [] trivial trivial (by kernel_rfl) (by kernel_rfl) (by kernel_rfl) ?_
    refine r_out (by kernel_rfl) ?_
    refine go_seq ?_
    refine r_in ?_
    refine o_batch 0 [(b2, 0, [.int .i64 a0.N, .slice A0z0 a0.Edges.length c0z0])] [.l 0 0, .p] [(37, .agg #[.int .i64 a0.N, .slice A0z0 a0.Edges.length c0z0]), (38, .int .i64 a1)] [] ⟨(hI.grp 0 rfl), trivial⟩ trivial (by kernel_rfl) (by kernel_rfl) (by kernel_rfl) ?_
    replace H := bind_some H
    obtain ⟨y31, hy32, H⟩ := H
    refine o_eff 2 _ rfl (by kernel_rfl) ?_
    refine e_callf _ _ _ 23 #[] #[] #[.agg #[.int .i64 a0.N, .slice A0z0 a0.Edges.length c0z0], .int .i64 a1] #[.agg #[.int .i64 a0.N, .slice A0z0 a0.Edges.length c0z0], .int .i64 a1] rfl (by kernel_rfl) (by kernel_rfl) (by kernel_rfl) (enter23 _) (graph_Parts_calls a0 A0z0 c0z0 a1 (memOf _) _ (Inv.start _) (hI.rd hT) (hI.rd hr0z0) hl0z0 _ hy32) ?_
    rintro _ _ ⟨A33, c34, rfl, hI'⟩
    replace hI := hI.call0 hI'
    clear hI'
    refine ⟨_, rfl, ?_⟩
    refine o_batch 3 [] [.p, .p, .p, .p, .p] [(36, .tuple #[.slice A33 y31.1.length c34, .int .i64 y31.2]), (40, .slice A33 y31.1.length c34), (41, .int .i64 y31.2), (10, .slice A33 y31.1.length c34), (11, .int .i64 y31.2)] [] trivial trivial (by kernel_rfl) (by kernel_rfl) (by kernel_rfl) ?_
    refine r_out (by kernel_rfl) ?_
    refine go_seq ?_
    refine go_seq ?_
    refine r_in ?_
    refine o_batch 0 [] [.p, .p] [(42, .int .i64 y15.2), (43, .bool (y15.2 != 0))] [] trivial trivial (by kernel_rfl) (by kernel_rfl) (by kernel_rfl) ?_
    refine r_out (by kernel_rfl) ?_
    replace H := cond_some H
    rcases H with ⟨hc39, H⟩ | ⟨hc39, H⟩
    · refine go_then' (t := (y15.2 != 0)) (by kernel_rfl) hc39 ?_
      refine go_seq ?_
      refine r_in ?_
      replace H := cond_some H
      rcases H with ⟨hc42, H⟩ | ⟨hc42, H⟩
      · replace H := cond_some H
        rcases H with ⟨hc43, H⟩ | ⟨hc43, H⟩
        · refine o_batch 0 [] [.p, .p, .p, .c true, .p, .p, .p, .p, .c true, .p, .p, .p, .p] [(44, .int .i64 y23.2.2), (45, .int .i64 y15.2), (46, .bool (y23.2.2 == y15.2)), (47, .bool true), (48, .int .i64 y31.2), (49, .int .i64 y15.2), (50, .bool (y31.2 == y15.2)), (51, .bool (y31.2 == y15.2)), (52, .bool true), (53, .bool y23.2.1), (54, .bool (!y23.2.1)), (55, .bool (!y23.2.1)), (4, .bool (!y23.2.1))] [((bif (y23.2.2 == y15.2) == true then 0 else -1), 1), ((bif (y31.2 == y15.2) == true then 0 else -1), 1)] trivial ⟨(bndEq hc42), (bndEq hc43), trivial⟩ (by kernel_rfl) (by kernel_rfl) (by kernel_rfl) ?_
          refine r_out (by kernel_rfl) ?_
          replace H := Option.some.inj H
          subst H
          exact go_return (.bool (!y23.2.1)) Tryd.func7 (by kernel_rfl) ⟨rfl, hI.pick [] (by decide) rfl⟩
        · refine o_batch 0 [] [.p, .p, .p, .c true, .p, .p, .p, .p, .c false, .p, .p, .p, .p] [(44, .int .i64 y23.2.2), (45, .int .i64 y15.2), (46, .bool (y23.2.2 == y15.2)), (47, .bool true), (48, .int .i64 y31.2), (49, .int .i64 y15.2), (50, .bool (y31.2 == y15.2)), (51, .bool (y31.2 == y15.2)), (52, .bool false), (53, undef), (54, undef), (55, .bool false), (4, .bool false)] [((bif (y23.2.2 == y15.2) == true then 0 else -1), 1), ((bif (y31.2 == y15.2) == false then 0 else -1), 1)] trivial ⟨(bndEq hc42), (bndEq hc43), trivial⟩ (by kernel_rfl) (by kernel_rfl) (by kernel_rfl) ?_
          refine r_out (by kernel_rfl) ?_
          replace H := Option.some.inj H
          subst H
          exact go_return (.bool false) Tryd.func7 (by kernel_rfl) ⟨rfl, hI.pick [] (by decide) rfl⟩
      · refine o_batch 0 [] [.p, .p, .p, .c false, .p, .p, .p, .p, .p, .p, .p, .p, .p] [(44, .int .i64 y23.2.2), (45, .int .i64 y15.2), (46, .bool (y23.2.2 == y15.2)), (47, .bool false), (48, undef), (49, undef), (50, undef), (51, .bool false), (52, .bool false), (53, undef), (54, undef), (55, .bool false), (4, .bool false)] [((bif (y23.2.2 == y15.2) == false then 0 else -1), 1)] trivial ⟨(bndEq hc42), trivial⟩ (by kernel_rfl) (by kernel_rfl) (by kernel_rfl) ?_
        refine r_out (by kernel_rfl) ?_
        replace H := Option.some.inj H
        subst H
        exact go_return (.bool false) Tryd.func7 (by kernel_rfl) ⟨rfl, hI.pick [] (by decide) rfl⟩
    · refine go_else' (t := (y15.2 != 0)) (by kernel_rfl) hc39 ?_
      refine go_skip ?_
      refine go_seq ?_
      refine go_seq_join (o := r) (fun b52 f w => ∃ (j : Nat → Value), f = updL j [(1, .int .i64 a1), (2, .pointer (some ⟨b2, 0, none⟩)), (5, .slice A17 y15.1.length c18), (7, .slice A25 y23.1.length c26), (8, .bool y23.2.1), (10, .slice A33 y31.1.length c34), (75, .bool b52)] ∧ Inv M w [.blk b2 24 [.int .i64 a0.N, .slice A0z0 a0.Edges.length c0z0], .row (tSlice 4 tBool) 27 A17 y15.1.length c18 y15.1, .row (tInt .i64) 3 A25 y23.1.length c26 y23.1, .row (tInt .i64) 3 A33 y31.1.length c34 y31.1]) (fun b52 => assizelaw06zGraphRounds.j1 a0 a1 y15 y23 y31 b52) ?_ (fun hJ53 => ?_)
      · clear H hI
        rintro b52 _ _ ⟨_, rfl, hI⟩ H
        replace H := cond_some H
        rcases H with ⟨hc54, H⟩ | ⟨hc54, H⟩
        · refine go_then' (t := b52) (by kernel_rfl) hc54 ?_
          refine go_seq ?_
          refine r_in ?_
          refine o_batch 0 [] [.p] [(4, .bool false)] [] trivial trivial (by kernel_rfl) (by kernel_rfl) (by kernel_rfl) ?_
          refine r_out (by kernel_rfl) ?_
          replace H := Option.some.inj H
          subst H
          exact go_return (.bool false) Tryd.func7 (by kernel_rfl) ⟨rfl, hI.pick [] (by decide) rfl⟩
        · refine go_else' (t := b52) (by kernel_rfl) hc54 ?_
          refine go_skip ?_
          refine go_seq ?_
          refine r_in ?_
          refine o_batch 0 [] [.p] [(12, .bool false)] [] trivial trivial (by kernel_rfl) (by kernel_rfl) (by kernel_rfl) ?_
          refine r_out (by kernel_rfl) ?_
          refine go_seq ?_
          refine go_seq ?_
          refine r_in ?_
          refine o_batch 0 [] [.p] [(13, .int .i64 0)] [] trivial trivial (by kernel_rfl) (by kernel_rfl) (by kernel_rfl) ?_
          refine r_out (by kernel_rfl) ?_
          refine go_block ?_
          refine go_iter (assizelaw06zGraphRounds.s2 a0 a1 y15 y23 y31) (fun x160 f w => ∃ (j : Nat → Value), f = updL j [(1, .int .i64 a1), (2, .pointer (some ⟨b2, 0, none⟩)), (5, .slice A17 y15.1.length c18), (7, .slice A25 y23.1.length c26), (8, .bool y23.2.1), (10, .slice A33 y31.1.length c34), (12, .bool false), (13, .int .i64 x160)] ∧ Inv M w [.blk b2 24 [.int .i64 a0.N, .slice A0z0 a0.Edges.length c0z0], .row (tSlice 4 tBool) 27 A17 y15.1.length c18 y15.1, .row (tInt .i64) 3 A25 y23.1.length c26 y23.1, .row (tInt .i64) 3 A33 y31.1.length c34 y31.1]) H ⟨_, at_slots _ (by kernel_rfl), hI⟩ ?_
          clear H hI
          rintro x160 _ _ o1 H ⟨_, rfl, hI⟩ hin1 hout1
          refine go_seq ?_
          refine go_seq ?_
          refine r_in ?_
          refine o_batch 0 [(b2, 0, [.int .i64 a0.N, .slice A0z0 a0.Edges.length c0z0])] [.p, .p, .l 0 0, .p] [(76, .int .i64 x160), (77, .pointer (some ⟨b2, 0, none⟩)), (78, .int .i64 a0.N), (79, .bool (decide (x160 < a0.N)))] [] ⟨(hI.grp 0 rfl), trivial⟩ trivial (by kernel_rfl) (by kernel_rfl) (by kernel_rfl) ?_
          refine r_out (by kernel_rfl) ?_
          replace H := cond_some H
          rcases H with ⟨hc162, H⟩ | ⟨hc162, H⟩
          · refine go_then' (t := decide (x160 < a0.N)) (by kernel_rfl) hc162 ?_
            refine go_skip ?_
            refine go_seq ?_
            refine go_block ?_
            refine go_seq ?_
            replace H := must_some H
            obtain ⟨g192, H⟩ := H
            obtain ⟨b193, rfl⟩ := hI.rowAt 1 rfl g192
            obtain ⟨cs196, hk195, hg194⟩ := rdS.look (hI.row 1 rfl) (hI.rowlen 1 rfl) g192
            obtain ⟨A197, c198, rfl, hl200, hr199⟩ := hk195
            refine d_still [(b193, 0 + x160.toNat * 1, [.slice A197 ((idx y15.1 x160).length) c198]), (b2, 0, [.int .i64 a0.N, .slice A0z0 a0.Edges.length c0z0])] [.p, .p, .x, .l 0 0, .p, .p, .l 1 0, .p] [(82, .slice (some ⟨b193, 0, none⟩) y15.1.length c18), (83, .int .i64 x160), (84, .pointer (some ⟨b193, 0 + x160.toNat * 1, none⟩)), (85, .slice A197 ((idx y15.1 x160).length) c198), (86, .int .i64 ((idx y15.1 x160).length : Int)), (87, .pointer (some ⟨b2, 0, none⟩)), (88, .int .i64 a0.N), (89, .bool (((idx y15.1 x160).length : Int) != a0.N))] [(x160, y15.1.length)] (by kernel_rfl) (by kernel_rfl) rfl ⟨hg194.ok, (hI.grp 0 rfl), trivial⟩ ⟨g192, trivial⟩ (by kernel_rfl) (by kernel_rfl) (by kernel_rfl) hI ?_
            clear hI
            intro _ hI
            replace H := cond_some H
            rcases H with ⟨hc201, H⟩ | ⟨hc201, H⟩
            · refine go_then' (t := (((idx y15.1 x160).length : Int) != a0.N)) (by kernel_rfl) hc201 ?_
              refine go_seq ?_
              refine r_in ?_
              refine o_batch 0 [] [.p] [(4, .bool false)] [] trivial trivial (by kernel_rfl) (by kernel_rfl) (by kernel_rfl) ?_
              refine r_out (by kernel_rfl) ?_
              replace H := out_some H
              obtain ⟨_, H, he1⟩ := H
              have he := (hout1 _ he1).symm
              subst he
              replace H := Option.some.inj H
              subst H
              exact go_return (.bool false) Tryd.func7 (by kernel_rfl) ⟨rfl, hI.pick [] (by decide) rfl⟩
            · refine go_else' (t := (((idx y15.1 x160).length : Int) != a0.N)) (by kernel_rfl) hc201 ?_
              refine go_skip ?_
              refine go_inBlock ?_
              refine r_in ?_
              refine o_batch 0 [] [.p, .p, .p] [(80, .int .i64 x160), (81, .int .i64 (w64 (x160 + 1))), (13, .int .i64 (w64 (x160 + 1)))] [] trivial trivial (by kernel_rfl) (by kernel_rfl) (by kernel_rfl) ?_
              refine r_out (by kernel_rfl) ?_
              exact hin1 _ (Option.some.inj H).symm _ _ ⟨_, at_slots _ (by kernel_rfl), hI⟩
          · refine go_else' (t := decide (x160 < a0.N)) (by kernel_rfl) hc162 ?_
            refine go_exit rfl ?_
            refine go_seq ?_
            refine go_seq ?_
            refine r_in ?_
            refine o_batch 0 [] [.p] [(14, .int .i64 0)] [] trivial trivial (by kernel_rfl) (by kernel_rfl) (by kernel_rfl) ?_
            refine r_out (by kernel_rfl) ?_
            refine go_block ?_
            refine go_iter (assizelaw06zGraphRounds.s3 a0 a1 y15 y23 y31) (fun (b1109, x1110) f w => ∃ (j : Nat → Value), f = updL j [(1, .int .i64 a1), (2, .pointer (some ⟨b2, 0, none⟩)), (5, .slice A17 y15.1.length c18), (7, .slice A25 y23.1.length c26), (8, .bool y23.2.1), (10, .slice A33 y31.1.length c34), (12, .bool b1109), (14, .int .i64 x1110)] ∧ Inv M w [.blk b2 24 [.int .i64 a0.N, .slice A0z0 a0.Edges.length c0z0], .row (tSlice 4 tBool) 27 A17 y15.1.length c18 y15.1, .row (tInt .i64) 3 A25 y23.1.length c26 y23.1, .row (tInt .i64) 3 A33 y31.1.length c34 y31.1]) H ⟨_, at_slots _ (by kernel_rfl), hI⟩ ?_
            clear H hI
            rintro ⟨b1109, x1110⟩ _ _ o2 H ⟨_, rfl, hI⟩ hin2 hout2
            refine go_seq ?_
            refine go_seq ?_
            refine r_in ?_
            refine o_batch 0 [(b2, 0, [.int .i64 a0.N, .slice A0z0 a0.Edges.length c0z0])] [.p, .p, .l 0 0, .p] [(90, .int .i64 x1110), (91, .pointer (some ⟨b2, 0, none⟩)), (92, .int .i64 a0.N), (93, .bool (decide (x1110 < a0.N)))] [] ⟨(hI.grp 0 rfl), trivial⟩ trivial (by kernel_rfl) (by kernel_rfl) (by kernel_rfl) ?_
            refine r_out (by kernel_rfl) ?_
            replace H := cond_some H
            rcases H with ⟨hc1112, H⟩ | ⟨hc1112, H⟩
            · refine go_then' (t := decide (x1110 < a0.N)) (by kernel_rfl) hc1112 ?_
              refine go_skip ?_
              refine go_seq ?_
              refine go_block ?_
              refine go_seq_join (o := o2) (fun b1352 f w => ∃ (j : Nat → Value), f = updL j [(1, .int .i64 a1), (2, .pointer (some ⟨b2, 0, none⟩)), (5, .slice A17 y15.1.length c18), (7, .slice A25 y23.1.length c26), (8, .bool y23.2.1), (10, .slice A33 y31.1.length c34), (12, .bool b1352), (14, .int .i64 x1110)] ∧ Inv M w [.blk b2 24 [.int .i64 a0.N, .slice A0z0 a0.Edges.length c0z0], .row (tSlice 4 tBool) 27 A17 y15.1.length c18 y15.1, .row (tInt .i64) 3 A25 y23.1.length c26 y23.1, .row (tInt .i64) 3 A33 y31.1.length c34 y31.1]) (fun b1352 => assizelaw06zGraphRounds.j4 a0 y15 y31 x1110 b1352) ?_ (fun hJ1353 => ?_)
              · clear H hI
                rintro b1352 _ _ ⟨_, rfl, hI⟩ H
                refine go_seq ?_
                refine r_in ?_
                refine o_batch 0 [] [.p] [(15, .int .i64 0)] [] trivial trivial (by kernel_rfl) (by kernel_rfl) (by kernel_rfl) ?_
                refine r_out (by kernel_rfl) ?_
                refine go_block ?_
                refine go_iter (assizelaw06zGraphRounds.s5 a0 y15 y31 x1110 b1352) (fun x1520 f w => ∃ (j : Nat → Value), f = updL j [(1, .int .i64 a1), (2, .pointer (some ⟨b2, 0, none⟩)), (5, .slice A17 y15.1.length c18), (7, .slice A25 y23.1.length c26), (8, .bool y23.2.1), (10, .slice A33 y31.1.length c34), (12, .bool b1352), (14, .int .i64 x1110), (15, .int .i64 x1520)] ∧ Inv M w [.blk b2 24 [.int .i64 a0.N, .slice A0z0 a0.Edges.length c0z0], .row (tSlice 4 tBool) 27 A17 y15.1.length c18 y15.1, .row (tInt .i64) 3 A25 y23.1.length c26 y23.1, .row (tInt .i64) 3 A33 y31.1.length c34 y31.1]) H ⟨_, at_slots _ (by kernel_rfl), hI⟩ ?_
                clear H hI
                rintro x1520 _ _ o3 H ⟨_, rfl, hI⟩ hin3 hout3
                refine go_seq ?_
                refine go_seq ?_
                refine r_in ?_
                refine o_batch 0 [(b2, 0, [.int .i64 a0.N, .slice A0z0 a0.Edges.length c0z0])] [.p, .p, .l 0 0, .p] [(106, .int .i64 x1520), (107, .pointer (some ⟨b2, 0, none⟩)), (108, .int .i64 a0.N), (109, .bool (decide (x1520 < a0.N)))] [] ⟨(hI.grp 0 rfl), trivial⟩ trivial (by kernel_rfl) (by kernel_rfl) (by kernel_rfl) ?_
                refine r_out (by kernel_rfl) ?_
                replace H := cond_some H
                rcases H with ⟨hc1522, H⟩ | ⟨hc1522, H⟩
                · refine go_then' (t := decide (x1520 < a0.N)) (by kernel_rfl) hc1522 ?_
                  refine go_skip ?_
                  refine go_seq ?_
                  refine go_block ?_
                  refine go_seq_join (o := o3) (fun b1611 f w => ∃ (j : Nat → Value), f = updL j [(1, .int .i64 a1), (2, .pointer (some ⟨b2, 0, none⟩)), (5, .slice A17 y15.1.length c18), (7, .slice A25 y23.1.length c26), (8, .bool y23.2.1), (10, .slice A33 y31.1.length c34), (12, .bool b1352), (14, .int .i64 x1110), (15, .int .i64 x1520), (142, .bool b1611)] ∧ Inv M w [.blk b2 24 [.int .i64 a0.N, .slice A0z0 a0.Edges.length c0z0], .row (tSlice 4 tBool) 27 A17 y15.1.length c18 y15.1, .row (tInt .i64) 3 A25 y23.1.length c26 y23.1, .row (tInt .i64) 3 A33 y31.1.length c34 y31.1]) (fun b1611 => assizelaw06zGraphRounds.j6 x1520 b1611) ?_ (fun hJ1612 => ?_)
                  · clear H hI
                    rintro b1611 _ _ ⟨_, rfl, hI⟩ H
                    replace H := cond_some H
                    rcases H with ⟨hc1613, H⟩ | ⟨hc1613, H⟩
                    · refine go_then' (t := b1611) (by kernel_rfl) hc1613 ?_
                      refine go_seq ?_
                      refine r_in ?_
                      refine o_batch 0 [] [.p] [(4, .bool false)] [] trivial trivial (by kernel_rfl) (by kernel_rfl) (by kernel_rfl) ?_
                      refine r_out (by kernel_rfl) ?_
                      replace H := out_some H
                      obtain ⟨_, H, he3⟩ := H
                      have he := (hout3 _ he3).symm
                      subst he
                      replace H := out_some H
                      obtain ⟨_, H, he2⟩ := H
                      have he := (hout2 _ he2).symm
                      subst he
                      replace H := out_some H
                      obtain ⟨_, H, he1⟩ := H
                      have he := (hout1 _ he1).symm
                      subst he
                      replace H := Option.some.inj H
                      subst H
                      exact go_return (.bool false) Tryd.func7 (by kernel_rfl) ⟨rfl, hI.pick [] (by decide) rfl⟩
                    · refine go_else' (t := b1611) (by kernel_rfl) hc1613 ?_
                      refine go_skip ?_
                      refine go_inBlock ?_
                      refine r_in ?_
                      refine o_batch 0 [] [.p, .p, .p] [(110, .int .i64 x1520), (111, .int .i64 (w64 (x1520 + 1))), (15, .int .i64 (w64 (x1520 + 1)))] [] trivial trivial (by kernel_rfl) (by kernel_rfl) (by kernel_rfl) ?_
                      refine r_out (by kernel_rfl) ?_
                      exact hin3 _ (Option.some.inj H).symm _ _ ⟨_, at_slots _ (by kernel_rfl), hI⟩
                  · replace H := must_some H
                    obtain ⟨g1614, H⟩ := H
                    obtain ⟨b1615, rfl⟩ := hI.rowAt 3 rfl g1614
                    replace H := must_some H
                    obtain ⟨g1616, H⟩ := H
                    replace H := cond_some H
                    rcases H with ⟨hc1617, H⟩ | ⟨hc1617, H⟩
                    · refine d_still [(b1615, 0 + x1110.toNat * 1, [.int .i64 (idx y31.1 x1110)]), (b1615, 0 + x1520.toNat * 1, [.int .i64 (idx y31.1 x1520)])] [.p, .p, .x, .l 0 0, .p, .p, .x, .l 1 0, .p, .p, .p, .p, .c true, .p, .p, .p, .p, .p, .p, .p, .p, .p, .p, .p, .p, .p, .p, .p, .p, .p, .p] [(112, .slice (some ⟨b1615, 0, none⟩) y31.1.length c34), (113, .int .i64 x1110), (114, .pointer (some ⟨b1615, 0 + x1110.toNat * 1, none⟩)), (115, .int .i64 (idx y31.1 x1110)), (116, .slice (some ⟨b1615, 0, none⟩) y31.1.length c34), (117, .int .i64 x1520), (118, .pointer (some ⟨b1615, 0 + x1520.toNat * 1, none⟩)), (119, .int .i64 (idx y31.1 x1520)), (120, .bool (idx y31.1 x1110 == idx y31.1 x1520)), (121, .int .i64 x1110), (122, .int .i64 x1520), (123, .bool (x1110 == x1520)), (124, .bool true), (125, undef), (126, undef), (127, undef), (128, undef), (129, undef), (130, undef), (131, undef), (132, undef), (133, undef), (134, undef), (135, undef), (136, undef), (137, undef), (138, undef), (139, undef), (140, undef), (141, .bool true), (142, .bool ((idx y31.1 x1110 == idx y31.1 x1520) != true))] [(x1110, y31.1.length), (x1520, y31.1.length), ((bif (x1110 == x1520) == true then 0 else -1), 1)] (by kernel_rfl) (by kernel_rfl) rfl ⟨(rdS.flook (hI.row 3 rfl) (hI.rowlen 3 rfl) g1614).ok, (rdS.flook (hI.row 3 rfl) (hI.rowlen 3 rfl) g1616).ok, trivial⟩ ⟨g1614, g1616, (bndEq hc1617), trivial⟩ (by kernel_rfl) (by kernel_rfl) (by kernel_rfl) hI ?_
                      clear hI
                      intro _ hI
                      exact hJ1612 ((idx y31.1 x1110 == idx y31.1 x1520) != true) _ _ ⟨_, at_slots _ (by kernel_rfl), hI⟩ H
                    · replace H := must_some H
                      obtain ⟨g1618, H⟩ := H
                      obtain ⟨b1619, rfl⟩ := hI.rowAt 1 rfl g1618
                      obtain ⟨cs1622, hk1621, hg1620⟩ := rdS.look (hI.row 1 rfl) (hI.rowlen 1 rfl) g1618
                      obtain ⟨A1623, c1624, rfl, hl1626, hr1625⟩ := hk1621
                      replace H := must_some H
                      obtain ⟨g1627, H⟩ := H
                      obtain ⟨b1628, q1629, rfl, _⟩ := rdS.fopen hr1625 rfl g1627
                      replace H := cond_some H
                      rcases H with ⟨hc1630, H⟩ | ⟨hc1630, H⟩
                      · replace H := must_some H
                        obtain ⟨g1631, H⟩ := H
                        obtain ⟨cs1634, hk1633, hg1632⟩ := rdS.look (hI.row 1 rfl) (hI.rowlen 1 rfl) g1631
                        obtain ⟨A1635, c1636, rfl, hl1638, hr1637⟩ := hk1633
                        replace H := must_some H
                        obtain ⟨g1639, H⟩ := H
                        obtain ⟨b1640, q1641, rfl, _⟩ := rdS.fopen hr1637 rfl g1639
                        refine d_still [(b1615, 0 + x1110.toNat * 1, [.int .i64 (idx y31.1 x1110)]), (b1615, 0 + x1520.toNat * 1, [.int .i64 (idx y31.1 x1520)]), (b1619, 0 + x1110.toNat * 1, [.slice (some ⟨b1628, q1629, none⟩) ((idx y15.1 x1110).length) c1624]), (b1628, q1629 + x1520.toNat * 1, [.bool (idx (idx y15.1 x1110) x1520)]), (b1619, 0 + x1520.toNat * 1, [.slice (some ⟨b1640, q1641, none⟩) ((idx y15.1 x1520).length) c1636]), (b1640, q1641 + x1110.toNat * 1, [.bool (idx (idx y15.1 x1520) x1110)])] [.p, .p, .x, .l 0 0, .p, .p, .x, .l 1 0, .p, .p, .p, .p, .c false, .p, .p, .x, .l 2 0, .p, .x, .l 3 0, .c true, .p, .p, .x, .l 4 0, .p, .x, .l 5 0, .p, .p, .p] [(112, .slice (some ⟨b1615, 0, none⟩) y31.1.length c34), (113, .int .i64 x1110), (114, .pointer (some ⟨b1615, 0 + x1110.toNat * 1, none⟩)), (115, .int .i64 (idx y31.1 x1110)), (116, .slice (some ⟨b1615, 0, none⟩) y31.1.length c34), (117, .int .i64 x1520), (118, .pointer (some ⟨b1615, 0 + x1520.toNat * 1, none⟩)), (119, .int .i64 (idx y31.1 x1520)), (120, .bool (idx y31.1 x1110 == idx y31.1 x1520)), (121, .int .i64 x1110), (122, .int .i64 x1520), (123, .bool (x1110 == x1520)), (124, .bool false), (125, .slice (some ⟨b1619, 0, none⟩) y15.1.length c18), (126, .int .i64 x1110), (127, .pointer (some ⟨b1619, 0 + x1110.toNat * 1, none⟩)), (128, .slice (some ⟨b1628, q1629, none⟩) ((idx y15.1 x1110).length) c1624), (129, .int .i64 x1520), (130, .pointer (some ⟨b1628, q1629 + x1520.toNat * 1, none⟩)), (131, .bool (idx (idx y15.1 x1110) x1520)), (132, .bool true), (133, .slice (some ⟨b1619, 0, none⟩) y15.1.length c18), (134, .int .i64 x1520), (135, .pointer (some ⟨b1619, 0 + x1520.toNat * 1, none⟩)), (136, .slice (some ⟨b1640, q1641, none⟩) ((idx y15.1 x1520).length) c1636), (137, .int .i64 x1110), (138, .pointer (some ⟨b1640, q1641 + x1110.toNat * 1, none⟩)), (139, .bool (idx (idx y15.1 x1520) x1110)), (140, .bool (idx (idx y15.1 x1520) x1110)), (141, .bool (idx (idx y15.1 x1520) x1110)), (142, .bool ((idx y31.1 x1110 == idx y31.1 x1520) != idx (idx y15.1 x1520) x1110))] [(x1110, y31.1.length), (x1520, y31.1.length), ((bif (x1110 == x1520) == false then 0 else -1), 1), (x1110, y15.1.length), (x1520, (idx y15.1 x1110).length), ((bif (idx (idx y15.1 x1110) x1520) == true then 0 else -1), 1), (x1520, y15.1.length), (x1110, (idx y15.1 x1520).length)] (by kernel_rfl) (by kernel_rfl) rfl ⟨(rdS.flook (hI.row 3 rfl) (hI.rowlen 3 rfl) g1614).ok, (rdS.flook (hI.row 3 rfl) (hI.rowlen 3 rfl) g1616).ok, hg1620.ok, (rdS.flook hr1625 rfl g1627).ok, hg1632.ok, (rdS.flook hr1637 rfl g1639).ok, trivial⟩ ⟨g1614, g1616, (bndEq hc1617), g1618, g1627, (bndEq hc1630), g1631, g1639, trivial⟩ (by kernel_rfl) (by kernel_rfl) (by kernel_rfl) hI ?_
                        clear hI
                        intro _ hI
                        exact hJ1612 ((idx y31.1 x1110 == idx y31.1 x1520) != idx (idx y15.1 x1520) x1110) _ _ ⟨_, at_slots _ (by kernel_rfl), hI⟩ H
                      · refine d_still [(b1615, 0 + x1110.toNat * 1, [.int .i64 (idx y31.1 x1110)]), (b1615, 0 + x1520.toNat * 1, [.int .i64 (idx y31.1 x1520)]), (b1619, 0 + x1110.toNat * 1, [.slice (some ⟨b1628, q1629, none⟩) ((idx y15.1 x1110).length) c1624]), (b1628, q1629 + x1520.toNat * 1, [.bool (idx (idx y15.1 x1110) x1520)])] [.p, .p, .x, .l 0 0, .p, .p, .x, .l 1 0, .p, .p, .p, .p, .c false, .p, .p, .x, .l 2 0, .p, .x, .l 3 0, .c false, .p, .p, .p, .p, .p, .p, .p, .p, .p, .p] [(112, .slice (some ⟨b1615, 0, none⟩) y31.1.length c34), (113, .int .i64 x1110), (114, .pointer (some ⟨b1615, 0 + x1110.toNat * 1, none⟩)), (115, .int .i64 (idx y31.1 x1110)), (116, .slice (some ⟨b1615, 0, none⟩) y31.1.length c34), (117, .int .i64 x1520), (118, .pointer (some ⟨b1615, 0 + x1520.toNat * 1, none⟩)), (119, .int .i64 (idx y31.1 x1520)), (120, .bool (idx y31.1 x1110 == idx y31.1 x1520)), (121, .int .i64 x1110), (122, .int .i64 x1520), (123, .bool (x1110 == x1520)), (124, .bool false), (125, .slice (some ⟨b1619, 0, none⟩) y15.1.length c18), (126, .int .i64 x1110), (127, .pointer (some ⟨b1619, 0 + x1110.toNat * 1, none⟩)), (128, .slice (some ⟨b1628, q1629, none⟩) ((idx y15.1 x1110).length) c1624), (129, .int .i64 x1520), (130, .pointer (some ⟨b1628, q1629 + x1520.toNat * 1, none⟩)), (131, .bool (idx (idx y15.1 x1110) x1520)), (132, .bool false), (133, undef), (134, undef), (135, undef), (136, undef), (137, undef), (138, undef), (139, undef), (140, .bool false), (141, .bool false), (142, .bool ((idx y31.1 x1110 == idx y31.1 x1520) != false))] [(x1110, y31.1.length), (x1520, y31.1.length), ((bif (x1110 == x1520) == false then 0 else -1), 1), (x1110, y15.1.length), (x1520, (idx y15.1 x1110).length), ((bif (idx (idx y15.1 x1110) x1520) == false then 0 else -1), 1)] (by kernel_rfl) (by kernel_rfl) rfl ⟨(rdS.flook (hI.row 3 rfl) (hI.rowlen 3 rfl) g1614).ok, (rdS.flook (hI.row 3 rfl) (hI.rowlen 3 rfl) g1616).ok, hg1620.ok, (rdS.flook hr1625 rfl g1627).ok, trivial⟩ ⟨g1614, g1616, (bndEq hc1617), g1618, g1627, (bndEq hc1630), trivial⟩ (by kernel_rfl) (by kernel_rfl) (by kernel_rfl) hI ?_
                        clear hI
                        intro _ hI
                        exact hJ1612 ((idx y31.1 x1110 == idx y31.1 x1520) != false) _ _ ⟨_, at_slots _ (by kernel_rfl), hI⟩ H
                · refine go_else' (t := decide (x1520 < a0.N)) (by kernel_rfl) hc1522 ?_
                  refine go_exit rfl ?_
                  refine go_inBlock ?_
                  refine r_in ?_
                  refine o_batch 0 [] [.p, .p, .p] [(94, .int .i64 x1110), (95, .int .i64 (w64 (x1110 + 1))), (14, .int .i64 (w64 (x1110 + 1)))] [] trivial trivial (by kernel_rfl) (by kernel_rfl) (by kernel_rfl) ?_
                  refine r_out (by kernel_rfl) ?_
                  replace H := out_some H
                  obtain ⟨_, H, he3⟩ := H
                  have he := (hout3 _ he3).symm
                  subst he
                  exact hin2 _ (Option.some.inj H).symm _ _ ⟨_, at_slots _ (by kernel_rfl), hI⟩
              · refine r_in ?_
                replace H := cond_some H
                rcases H with ⟨hc1642, H⟩ | ⟨hc1642, H⟩
                · refine o_batch 0 [] [.p, .c true, .p, .p, .p, .p, .p, .p, .p, .p, .p] [(96, .bool b1109), (97, .bool true), (98, undef), (99, undef), (100, undef), (101, undef), (102, undef), (103, undef), (104, undef), (105, .bool true), (12, .bool true)] [((bif b1109 == true then 0 else -1), 1)] trivial ⟨(bndEq hc1642), trivial⟩ (by kernel_rfl) (by kernel_rfl) (by kernel_rfl) ?_
                  refine r_out (by kernel_rfl) ?_
                  exact hJ1353 true _ _ ⟨_, at_slots _ (by kernel_rfl), hI⟩ H
                · replace H := must_some H
                  obtain ⟨g1643, H⟩ := H
                  obtain ⟨b1644, rfl⟩ := hI.rowAt 1 rfl g1643
                  obtain ⟨cs1647, hk1646, hg1645⟩ := rdS.look (hI.row 1 rfl) (hI.rowlen 1 rfl) g1643
                  obtain ⟨A1648, c1649, rfl, hl1651, hr1650⟩ := hk1646
                  replace H := must_some H
                  obtain ⟨g1652, H⟩ := H
                  obtain ⟨b1653, q1654, rfl, _⟩ := rdS.fopen hr1650 rfl g1652
                  refine o_batch 0 [(b1644, 0 + x1110.toNat * 1, [.slice (some ⟨b1653, q1654, none⟩) ((idx y15.1 x1110).length) c1649]), (b1653, q1654 + x1110.toNat * 1, [.bool (idx (idx y15.1 x1110) x1110)])] [.p, .c false, .p, .p, .x, .l 0 0, .p, .x, .l 1 0, .p, .p] [(96, .bool b1109), (97, .bool false), (98, .slice (some ⟨b1644, 0, none⟩) y15.1.length c18), (99, .int .i64 x1110), (100, .pointer (some ⟨b1644, 0 + x1110.toNat * 1, none⟩)), (101, .slice (some ⟨b1653, q1654, none⟩) ((idx y15.1 x1110).length) c1649), (102, .int .i64 x1110), (103, .pointer (some ⟨b1653, q1654 + x1110.toNat * 1, none⟩)), (104, .bool (idx (idx y15.1 x1110) x1110)), (105, .bool (idx (idx y15.1 x1110) x1110)), (12, .bool (idx (idx y15.1 x1110) x1110))] [((bif b1109 == false then 0 else -1), 1), (x1110, y15.1.length), (x1110, (idx y15.1 x1110).length)] ⟨hg1645.ok, (rdS.flook hr1650 rfl g1652).ok, trivial⟩ ⟨(bndEq hc1642), g1643, g1652, trivial⟩ (by kernel_rfl) (by kernel_rfl) (by kernel_rfl) ?_
                  refine r_out (by kernel_rfl) ?_
                  exact hJ1353 (idx (idx y15.1 x1110) x1110) _ _ ⟨_, at_slots _ (by kernel_rfl), hI⟩ H
            · refine go_else' (t := decide (x1110 < a0.N)) (by kernel_rfl) hc1112 ?_
              refine go_exit rfl ?_
              refine go_seq ?_
              refine go_seq ?_
              refine r_in ?_
              refine o_batch 0 [] [.p, .p, .p] [(143, .bool y23.2.1), (144, .bool b1109), (145, .bool (y23.2.1 == b1109))] [] trivial trivial (by kernel_rfl) (by kernel_rfl) (by kernel_rfl) ?_
              refine r_out (by kernel_rfl) ?_
              replace H := cond_some H
              rcases H with ⟨hc1656, H⟩ | ⟨hc1656, H⟩
              · refine go_then' (t := (y23.2.1 == b1109)) (by kernel_rfl) hc1656 ?_
                refine go_seq ?_
                refine r_in ?_
                refine o_batch 0 [] [.p] [(4, .bool false)] [] trivial trivial (by kernel_rfl) (by kernel_rfl) (by kernel_rfl) ?_
                refine r_out (by kernel_rfl) ?_
                replace H := out_some H
                obtain ⟨_, H, he2⟩ := H
                have he := (hout2 _ he2).symm
                subst he
                replace H := out_some H
                obtain ⟨_, H, he1⟩ := H
                have he := (hout1 _ he1).symm
                subst he
                replace H := Option.some.inj H
                subst H
                exact go_return (.bool false) Tryd.func7 (by kernel_rfl) ⟨rfl, hI.pick [] (by decide) rfl⟩
              · refine go_else' (t := (y23.2.1 == b1109)) (by kernel_rfl) hc1656 ?_
                refine go_skip ?_
                refine go_seq ?_
                refine r_in ?_
                refine o_batch 0 [(b2, 0, [.int .i64 a0.N, .slice A0z0 a0.Edges.length c0z0])] [.p, .l 0 0] [(146, .pointer (some ⟨b2, 0, none⟩)), (147, .int .i64 a0.N)] [] ⟨(hI.grp 0 rfl), trivial⟩ trivial (by kernel_rfl) (by kernel_rfl) (by kernel_rfl) ?_
                replace H := must_some H
                obtain ⟨g1659, H⟩ := H
                refine o_eff 2 _ rfl (by kernel_rfl) ?_
                refine e_make (tInt .i64) (default : Int) 43 3 _ _ _ (.int .i64 0) a0.N rfl rfl rfl rfl rfl rfl (fun _ => rfl) (by kernel_rfl) (by kernel_rfl) g1659 hI ?_
                clear hI
                intro b1660 _ hI
                refine o_batch 3 [] [.p] [(16, .slice (some ⟨b1660, 0, none⟩) a0.N.toNat a0.N.toNat)] [] trivial trivial (by kernel_rfl) (by kernel_rfl) (by kernel_rfl) ?_
                refine r_out (by kernel_rfl) ?_
                refine go_seq ?_
                refine go_seq ?_
                refine r_in ?_
                refine o_batch 0 [] [.p] [(17, .int .i64 0)] [] trivial trivial (by kernel_rfl) (by kernel_rfl) (by kernel_rfl) ?_
                refine r_out (by kernel_rfl) ?_
                refine go_block ?_
                refine go_is 16 (.slice (some ⟨b1660, 0, none⟩) a0.N.toNat a0.N.toNat) (.slice (some ⟨b1660, 0, none⟩) ((List.replicate a0.N.toNat (default : Int)).length) a0.N.toNat) (by kernel_rfl) (by first | rfl | simp only [List.length_set, List.length_replicate, List.length_nil]) ?_
                replace hI := hI.renum 4 rfl
                refine go_iter (assizelaw06zGraphRounds.s7 a0 a1 y15 y23) (fun (l1827, x1830) f w => ∃ (j : Nat → Value) (A1828 : Option Addr) (c1829 : Nat), f = updL j [(1, .int .i64 a1), (2, .pointer (some ⟨b2, 0, none⟩)), (5, .slice A17 y15.1.length c18), (7, .slice A25 y23.1.length c26), (8, .bool y23.2.1), (16, .slice A1828 l1827.length c1829), (17, .int .i64 x1830)] ∧ Inv M w [.blk b2 24 [.int .i64 a0.N, .slice A0z0 a0.Edges.length c0z0], .row (tSlice 4 tBool) 27 A17 y15.1.length c18 y15.1, .row (tInt .i64) 3 A25 y23.1.length c26 y23.1, .row (tInt .i64) 3 A1828 l1827.length c1829 l1827]) H ⟨_, (some ⟨b1660, 0, none⟩), a0.N.toNat, at_slots _ (by kernel_rfl), hI.pick [0, 1, 2, 4] (by decide) rfl⟩ ?_
                clear H hI
                rintro ⟨l1827, x1830⟩ _ _ o3 H ⟨_, A1828, c1829, rfl, hI⟩ hin3 hout3
                refine go_seq ?_
                refine go_seq ?_
                refine r_in ?_
                refine o_batch 0 [] [.p, .p, .p, .p] [(149, .int .i64 x1830), (150, .slice A25 y23.1.length c26), (151, .int .i64 (y23.1.length : Int)), (152, .bool (decide (x1830 < (y23.1.length : Int))))] [] trivial trivial (by kernel_rfl) (by kernel_rfl) (by kernel_rfl) ?_
                refine r_out (by kernel_rfl) ?_
                replace H := cond_some H
                rcases H with ⟨hc1832, H⟩ | ⟨hc1832, H⟩
                · refine go_then' (t := decide (x1830 < (y23.1.length : Int))) (by kernel_rfl) hc1832 ?_
                  refine go_skip ?_
                  refine go_seq ?_
                  refine go_block ?_
                  refine go_seq ?_
                  refine go_seq_join (o := o3) (fun b1871 f w => ∃ (j : Nat → Value), f = updL j [(1, .int .i64 a1), (2, .pointer (some ⟨b2, 0, none⟩)), (5, .slice A17 y15.1.length c18), (7, .slice A25 y23.1.length c26), (8, .bool y23.2.1), (16, .slice A1828 l1827.length c1829), (17, .int .i64 x1830), (178, .bool b1871)] ∧ Inv M w [.blk b2 24 [.int .i64 a0.N, .slice A0z0 a0.Edges.length c0z0], .row (tSlice 4 tBool) 27 A17 y15.1.length c18 y15.1, .row (tInt .i64) 3 A25 y23.1.length c26 y23.1, .row (tInt .i64) 3 A1828 l1827.length c1829 l1827]) (fun b1871 => assizelaw06zGraphRounds.j8 y23 l1827 x1830 b1871) ?_ (fun hJ1872 => ?_)
                  · clear H hI
                    rintro b1871 _ _ ⟨_, rfl, hI⟩ H
                    replace H := cond_some H
                    rcases H with ⟨hc1873, H⟩ | ⟨hc1873, H⟩
                    · refine go_then' (t := b1871) (by kernel_rfl) hc1873 ?_
                      refine go_seq ?_
                      refine r_in ?_
                      refine o_batch 0 [] [.p] [(4, .bool false)] [] trivial trivial (by kernel_rfl) (by kernel_rfl) (by kernel_rfl) ?_
                      refine r_out (by kernel_rfl) ?_
                      replace H := out_some H
                      obtain ⟨_, H, he3⟩ := H
                      have he := (hout3 _ he3).symm
                      subst he
                      replace H := out_some H
                      obtain ⟨_, H, he2⟩ := H
                      have he := (hout2 _ he2).symm
                      subst he
                      replace H := out_some H
                      obtain ⟨_, H, he1⟩ := H
                      have he := (hout1 _ he1).symm
                      subst he
                      replace H := Option.some.inj H
                      subst H
                      exact go_return (.bool false) Tryd.func7 (by kernel_rfl) ⟨rfl, hI.pick [] (by decide) rfl⟩
                    · refine go_else' (t := b1871) (by kernel_rfl) hc1873 ?_
                      refine go_skip ?_
                      refine r_in ?_
                      replace H := must_some H
                      obtain ⟨g1874, H⟩ := H
                      obtain ⟨b1875, rfl⟩ := hI.rowAt 2 rfl g1874
                      replace H := must_some H
                      obtain ⟨g1876, H⟩ := H
                      obtain ⟨b1877, rfl⟩ := hI.rowAt 3 rfl g1876
                      refine o_batch 0 [(b1875, 0 + x1830.toNat * 1, [.int .i64 (idx y23.1 x1830)])] [.p, .p, .p, .x, .l 0 0, .p, .p, .x] [(179, .slice (some ⟨b1877, 0, none⟩) l1827.length c1829), (180, .slice (some ⟨b1875, 0, none⟩) y23.1.length c26), (181, .int .i64 x1830), (182, .pointer (some ⟨b1875, 0 + x1830.toNat * 1, none⟩)), (183, .int .i64 (idx y23.1 x1830)), (184, .int .i64 x1830), (185, .int .i64 (w64 (x1830 + 1))), (186, .pointer (some ⟨b1877, 0 + (idx y23.1 x1830).toNat * 1, none⟩))] [(x1830, y23.1.length), (idx y23.1 x1830, l1827.length)] ⟨(rdS.flook (hI.row 2 rfl) (hI.rowlen 2 rfl) g1874).ok, trivial⟩ ⟨g1874, g1876, trivial⟩ (by kernel_rfl) (by kernel_rfl) (by kernel_rfl) ?_
                      refine o_eff 8 _ rfl (by kernel_rfl) ?_
                      refine e_put 3 _ _ 3 b1877 3 l1827.length c1829 l1827 (w64 (x1830 + 1)) (idx y23.1 x1830) 0 (.int .i64 (w64 (x1830 + 1))) rfl (by kernel_rfl) (by kernel_rfl) (by kernel_rfl) (by kernel_rfl) hI rfl (by simpa only [List.length_set, List.length_replicate] using g1876) (by kernel_rfl) (by kernel_rfl) ?_
                      clear hI
                      intro _ hI
                      refine r_out (by kernel_rfl) ?_
                      refine go_inBlock ?_
                      refine r_in ?_
                      refine o_batch 0 [] [.p, .p, .p] [(153, .int .i64 x1830), (154, .int .i64 (w64 (x1830 + 1))), (17, .int .i64 (w64 (x1830 + 1)))] [] trivial trivial (by kernel_rfl) (by kernel_rfl) (by kernel_rfl) ?_
                      refine r_out (by kernel_rfl) ?_
                      refine go_is 16 (.slice (some ⟨b1877, 0, none⟩) l1827.length c1829) (.slice (some ⟨b1877, 0, none⟩) ((l1827.set (idx y23.1 x1830).toNat (w64 (x1830 + 1))).length) c1829) (by kernel_rfl) (by first | rfl | simp only [List.length_set, List.length_replicate, List.length_nil]) ?_
                      replace hI := hI.renum 3 rfl
                      exact hin3 _ (Option.some.inj H).symm _ _ ⟨_, (some ⟨b1877, 0, none⟩), c1829, at_slots _ (by kernel_rfl), hI⟩
                  · replace H := must_some H
                    obtain ⟨g1878, H⟩ := H
                    obtain ⟨b1879, rfl⟩ := hI.rowAt 2 rfl g1878
                    replace H := cond_some H
                    rcases H with ⟨hc1880, H⟩ | ⟨hc1880, H⟩
                    · refine d_still [(b1879, 0 + x1830.toNat * 1, [.int .i64 (idx y23.1 x1830)])] [.p, .p, .x, .l 0 0, .p, .c true, .p, .p, .p, .p, .p, .p, .p, .p, .p, .p, .p, .p, .p, .p, .p, .p, .p, .p] [(155, .slice (some ⟨b1879, 0, none⟩) y23.1.length c26), (156, .int .i64 x1830), (157, .pointer (some ⟨b1879, 0 + x1830.toNat * 1, none⟩)), (158, .int .i64 (idx y23.1 x1830)), (159, .bool (decide (idx y23.1 x1830 < 0))), (160, .bool true), (161, undef), (162, undef), (163, undef), (164, undef), (165, undef), (166, undef), (167, undef), (168, .bool true), (169, .bool true), (170, undef), (171, undef), (172, undef), (173, undef), (174, undef), (175, undef), (176, undef), (177, undef), (178, .bool true)] [(x1830, y23.1.length), ((bif (decide (idx y23.1 x1830 < 0)) == true then 0 else -1), 1)] (by kernel_rfl) (by kernel_rfl) rfl ⟨(rdS.flook (hI.row 2 rfl) (hI.rowlen 2 rfl) g1878).ok, trivial⟩ ⟨g1878, (bndEq hc1880), trivial⟩ (by kernel_rfl) (by kernel_rfl) (by kernel_rfl) hI ?_
                      clear hI
                      intro _ hI
                      exact hJ1872 true _ _ ⟨_, at_slots _ (by kernel_rfl), hI⟩ H
                    · replace H := cond_some H
                      rcases H with ⟨hc1881, H⟩ | ⟨hc1881, H⟩
                      · refine d_still [(b1879, 0 + x1830.toNat * 1, [.int .i64 (idx y23.1 x1830)]), (b2, 0, [.int .i64 a0.N, .slice A0z0 a0.Edges.length c0z0])] [.p, .p, .x, .l 0 0, .p, .c false, .p, .p, .x, .l 0 0, .p, .l 1 0, .p, .p, .c true, .p, .p, .p, .p, .p, .p, .p, .p, .p] [(155, .slice (some ⟨b1879, 0, none⟩) y23.1.length c26), (156, .int .i64 x1830), (157, .pointer (some ⟨b1879, 0 + x1830.toNat * 1, none⟩)), (158, .int .i64 (idx y23.1 x1830)), (159, .bool (decide (idx y23.1 x1830 < 0))), (160, .bool false), (161, .slice (some ⟨b1879, 0, none⟩) y23.1.length c26), (162, .int .i64 x1830), (163, .pointer (some ⟨b1879, 0 + x1830.toNat * 1, none⟩)), (164, .int .i64 (idx y23.1 x1830)), (165, .pointer (some ⟨b2, 0, none⟩)), (166, .int .i64 a0.N), (167, .bool (decide (idx y23.1 x1830 ≥ a0.N))), (168, .bool (decide (idx y23.1 x1830 ≥ a0.N))), (169, .bool true), (170, undef), (171, undef), (172, undef), (173, undef), (174, undef), (175, undef), (176, undef), (177, undef), (178, .bool true)] [(x1830, y23.1.length), ((bif (decide (idx y23.1 x1830 < 0)) == false then 0 else -1), 1), (x1830, y23.1.length), ((bif (decide (idx y23.1 x1830 ≥ a0.N)) == true then 0 else -1), 1)] (by kernel_rfl) (by kernel_rfl) rfl ⟨(rdS.flook (hI.row 2 rfl) (hI.rowlen 2 rfl) g1878).ok, (hI.grp 0 rfl), trivial⟩ ⟨g1878, (bndEq hc1880), g1878, (bndEq hc1881), trivial⟩ (by kernel_rfl) (by kernel_rfl) (by kernel_rfl) hI ?_
                        clear hI
                        intro _ hI
                        exact hJ1872 true _ _ ⟨_, at_slots _ (by kernel_rfl), hI⟩ H
                      · replace H := must_some H
                        obtain ⟨g1882, H⟩ := H
                        obtain ⟨b1883, rfl⟩ := hI.rowAt 3 rfl g1882
                        refine d_still [(b1879, 0 + x1830.toNat * 1, [.int .i64 (idx y23.1 x1830)]), (b2, 0, [.int .i64 a0.N, .slice A0z0 a0.Edges.length c0z0]), (b1883, 0 + (idx y23.1 x1830).toNat * 1, [.int .i64 (idx l1827 (idx y23.1 x1830))])] [.p, .p, .x, .l 0 0, .p, .c false, .p, .p, .x, .l 0 0, .p, .l 1 0, .p, .p, .c false, .p, .p, .p, .x, .l 0 0, .x, .l 2 0, .p, .p] [(155, .slice (some ⟨b1879, 0, none⟩) y23.1.length c26), (156, .int .i64 x1830), (157, .pointer (some ⟨b1879, 0 + x1830.toNat * 1, none⟩)), (158, .int .i64 (idx y23.1 x1830)), (159, .bool (decide (idx y23.1 x1830 < 0))), (160, .bool false), (161, .slice (some ⟨b1879, 0, none⟩) y23.1.length c26), (162, .int .i64 x1830), (163, .pointer (some ⟨b1879, 0 + x1830.toNat * 1, none⟩)), (164, .int .i64 (idx y23.1 x1830)), (165, .pointer (some ⟨b2, 0, none⟩)), (166, .int .i64 a0.N), (167, .bool (decide (idx y23.1 x1830 ≥ a0.N))), (168, .bool (decide (idx y23.1 x1830 ≥ a0.N))), (169, .bool false), (170, .slice (some ⟨b1883, 0, none⟩) l1827.length c1829), (171, .slice (some ⟨b1879, 0, none⟩) y23.1.length c26), (172, .int .i64 x1830), (173, .pointer (some ⟨b1879, 0 + x1830.toNat * 1, none⟩)), (174, .int .i64 (idx y23.1 x1830)), (175, .pointer (some ⟨b1883, 0 + (idx y23.1 x1830).toNat * 1, none⟩)), (176, .int .i64 (idx l1827 (idx y23.1 x1830))), (177, .bool (idx l1827 (idx y23.1 x1830) != 0)), (178, .bool (idx l1827 (idx y23.1 x1830) != 0))] [(x1830, y23.1.length), ((bif (decide (idx y23.1 x1830 < 0)) == false then 0 else -1), 1), (x1830, y23.1.length), ((bif (decide (idx y23.1 x1830 ≥ a0.N)) == false then 0 else -1), 1), (x1830, y23.1.length), (idx y23.1 x1830, l1827.length)] (by kernel_rfl) (by kernel_rfl) rfl ⟨(rdS.flook (hI.row 2 rfl) (hI.rowlen 2 rfl) g1878).ok, (hI.grp 0 rfl), (rdS.flook (hI.row 3 rfl) (hI.rowlen 3 rfl) g1882).ok, trivial⟩ ⟨g1878, (bndEq hc1880), g1878, (bndEq hc1881), g1878, g1882, trivial⟩ (by kernel_rfl) (by kernel_rfl) (by kernel_rfl) hI ?_
                        clear hI
                        intro _ hI
                        exact hJ1872 (idx l1827 (idx y23.1 x1830) != 0) _ _ ⟨_, at_slots _ (by kernel_rfl), hI⟩ H
                · refine go_else' (t := decide (x1830 < (y23.1.length : Int))) (by kernel_rfl) hc1832 ?_
                  refine go_exit rfl ?_
                  refine go_seq ?_
                  refine go_seq ?_
                  refine r_in ?_
                  refine o_batch 0 [] [.p] [(18, .int .i64 0)] [] trivial trivial (by kernel_rfl) (by kernel_rfl) (by kernel_rfl) ?_
                  refine r_out (by kernel_rfl) ?_
                  refine go_block ?_
                  refine go_iter (assizelaw06zGraphRounds.s9 a0 a1 y15 y23 l1827) (fun x2781 f w => ∃ (j : Nat → Value), f = updL j [(1, .int .i64 a1), (2, .pointer (some ⟨b2, 0, none⟩)), (5, .slice A17 y15.1.length c18), (7, .slice A25 y23.1.length c26), (8, .bool y23.2.1), (16, .slice A1828 l1827.length c1829), (18, .int .i64 x2781)] ∧ Inv M w [.blk b2 24 [.int .i64 a0.N, .slice A0z0 a0.Edges.length c0z0], .row (tSlice 4 tBool) 27 A17 y15.1.length c18 y15.1, .row (tInt .i64) 3 A25 y23.1.length c26 y23.1, .row (tInt .i64) 3 A1828 l1827.length c1829 l1827]) H ⟨_, at_slots _ (by kernel_rfl), hI⟩ ?_
                  clear H hI
                  rintro x2781 _ _ o4 H ⟨_, rfl, hI⟩ hin4 hout4
                  refine go_seq ?_
                  refine go_seq ?_
                  refine r_in ?_
                  refine o_batch 0 [(b2, 0, [.int .i64 a0.N, .slice A0z0 a0.Edges.length c0z0])] [.p, .p, .l 0 1, .p, .p] [(187, .int .i64 x2781), (188, .pointer (some ⟨b2, 1, none⟩)), (189, .slice A0z0 a0.Edges.length c0z0), (190, .int .i64 (a0.Edges.length : Int)), (191, .bool (decide (x2781 < (a0.Edges.length : Int))))] [] ⟨(hI.grp 0 rfl), trivial⟩ trivial (by kernel_rfl) (by kernel_rfl) (by kernel_rfl) ?_
                  refine r_out (by kernel_rfl) ?_
                  replace H := cond_some H
                  rcases H with ⟨hc2783, H⟩ | ⟨hc2783, H⟩
                  · refine go_then' (t := decide (x2781 < (a0.Edges.length : Int))) (by kernel_rfl) hc2783 ?_
                    refine go_skip ?_
                    refine go_seq ?_
                    refine go_block_join (o := o4) (fun (_ : Unit) f w => ∃ (j : Nat → Value), f = updL j [(1, .int .i64 a1), (2, .pointer (some ⟨b2, 0, none⟩)), (5, .slice A17 y15.1.length c18), (7, .slice A25 y23.1.length c26), (8, .bool y23.2.1), (16, .slice A1828 l1827.length c1829), (18, .int .i64 x2781)] ∧ Inv M w [.blk b2 24 [.int .i64 a0.N, .slice A0z0 a0.Edges.length c0z0], .row (tSlice 4 tBool) 27 A17 y15.1.length c18 y15.1, .row (tInt .i64) 3 A25 y23.1.length c26 y23.1, .row (tInt .i64) 3 A1828 l1827.length c1829 l1827]) (fun (_ : Unit) => assizelaw06zGraphRounds.j10 x2781) ?_ (fun hJ3002 => ?_)
                    · clear H hI
                      rintro ⟨⟩ _ _ ⟨_, rfl, hI⟩ H
                      refine r_in ?_
                      refine o_batch 0 [] [.p, .p, .p] [(192, .int .i64 x2781), (193, .int .i64 (w64 (x2781 + 1))), (18, .int .i64 (w64 (x2781 + 1)))] [] trivial trivial (by kernel_rfl) (by kernel_rfl) (by kernel_rfl) ?_
                      refine r_out (by kernel_rfl) ?_
                      exact hin4 _ (Option.some.inj H).symm _ _ ⟨_, at_slots _ (by kernel_rfl), hI⟩
                    · refine go_seq ?_
                      refine r_in ?_
                      replace H := must_some H
                      obtain ⟨g3007, H⟩ := H
                      obtain ⟨b3008, q3009, rfl, _⟩ := rdS.fopen hr0z0 rfl g3007
                      refine o_batch 0 [(b2, 0, [.int .i64 a0.N, .slice (some ⟨b3008, q3009, none⟩) a0.Edges.length c0z0]), (b3008, q3009 + x2781.toNat * 4, [.int .i64 ((idx a0.Edges x2781).From), .int .i64 ((idx a0.Edges x2781).To), .int .i64 ((idx a0.Edges x2781).Kind), .int .i64 ((idx a0.Edges x2781).Key)])] [.p, .l 0 1, .p, .x, .l 1 0] [(194, .pointer (some ⟨b2, 1, none⟩)), (195, .slice (some ⟨b3008, q3009, none⟩) a0.Edges.length c0z0), (196, .int .i64 x2781), (197, .pointer (some ⟨b3008, q3009 + x2781.toNat * 4, none⟩)), (198, .agg #[.int .i64 ((idx a0.Edges x2781).From), .int .i64 ((idx a0.Edges x2781).To), .int .i64 ((idx a0.Edges x2781).Kind), .int .i64 ((idx a0.Edges x2781).Key)])] [(x2781, a0.Edges.length)] ⟨(hI.grp 0 rfl), (hI.lies (rdS.flook hr0z0 rfl g3007)), trivial⟩ ⟨g3007, trivial⟩ (by kernel_rfl) (by kernel_rfl) (by kernel_rfl) ?_
                      refine o_eff 5 _ rfl (by kernel_rfl) ?_
                      refine e_alloc 40 (.agg #[.int .i64 0, .int .i64 0, .int .i64 0, .int .i64 0]) [.int .i64 0, .int .i64 0, .int .i64 0, .int .i64 0] rfl (by kernel_rfl) rfl hI ?_
                      clear hI
                      intro b3010 _ hI
                      refine o_eff 6 _ rfl (by kernel_rfl) ?_
                      refine e_store 40 _ _ 4 b3010 40 [.int .i64 0, .int .i64 0, .int .i64 0, .int .i64 0] [.int .i64 ((idx a0.Edges x2781).From), .int .i64 ((idx a0.Edges x2781).To), .int .i64 ((idx a0.Edges x2781).Kind), .int .i64 ((idx a0.Edges x2781).Key)] 0 (.agg #[.int .i64 ((idx a0.Edges x2781).From), .int .i64 ((idx a0.Edges x2781).To), .int .i64 ((idx a0.Edges x2781).Kind), .int .i64 ((idx a0.Edges x2781).Key)]) rfl (by kernel_rfl) (by kernel_rfl) (by kernel_rfl) (by kernel_rfl) hI rfl (by kernel_rfl) (by kernel_rfl) ?_
                      clear hI
                      intro _ hI
                      refine r_out (by kernel_rfl) ?_
                      refine go_seq ?_
                      refine go_seq ?_
                      refine r_in ?_
                      refine o_batch 0 [(b3010, 0, [.int .i64 ((idx a0.Edges x2781).From), .int .i64 ((idx a0.Edges x2781).To), .int .i64 ((idx a0.Edges x2781).Kind), .int .i64 ((idx a0.Edges x2781).Key)])] [.p, .l 0 2, .p, .p, .p] [(199, .pointer (some ⟨b3010, 2, none⟩)), (200, .int .i64 ((idx a0.Edges x2781).Kind)), (201, .int .i64 a1), (202, .int .i64 (bAnd .i64 ((idx a0.Edges x2781).Kind) a1)), (203, .bool (bAnd .i64 ((idx a0.Edges x2781).Kind) a1 == 0))] [] ⟨(hI.grp 4 rfl), trivial⟩ trivial (by kernel_rfl) (by kernel_rfl) (by kernel_rfl) ?_
                      refine r_out (by kernel_rfl) ?_
                      replace H := cond_some H
                      rcases H with ⟨hc3012, H⟩ | ⟨hc3012, H⟩
                      · refine go_then' (t := (bAnd .i64 ((idx a0.Edges x2781).Kind) a1 == 0)) (by kernel_rfl) hc3012 ?_
                        refine go_exit rfl ?_
                        exact hJ3002 () _ _ ⟨_, at_slots _ (by kernel_rfl), hI.pick [0, 1, 2, 3] (by decide) rfl⟩ H
                      · refine go_else' (t := (bAnd .i64 ((idx a0.Edges x2781).Kind) a1 == 0)) (by kernel_rfl) hc3012 ?_
                        refine go_skip ?_
                        refine go_seq ?_
                        refine go_seq_join (o := o4) (fun b3051 f w => ∃ (j : Nat → Value), f = updL j [(1, .int .i64 a1), (2, .pointer (some ⟨b2, 0, none⟩)), (5, .slice A17 y15.1.length c18), (7, .slice A25 y23.1.length c26), (8, .bool y23.2.1), (16, .slice A1828 l1827.length c1829), (18, .int .i64 x2781), (19, .pointer (some ⟨b3010, 0, none⟩)), (237, .bool b3051)] ∧ Inv M w [.blk b2 24 [.int .i64 a0.N, .slice (some ⟨b3008, q3009, none⟩) a0.Edges.length c0z0], .row (tSlice 4 tBool) 27 A17 y15.1.length c18 y15.1, .row (tInt .i64) 3 A25 y23.1.length c26 y23.1, .row (tInt .i64) 3 A1828 l1827.length c1829 l1827, .blk b3010 40 [.int .i64 ((idx a0.Edges x2781).From), .int .i64 ((idx a0.Edges x2781).To), .int .i64 ((idx a0.Edges x2781).Kind), .int .i64 ((idx a0.Edges x2781).Key)]]) (fun b3051 => assizelaw06zGraphRounds.j11 a0 y15 x2781 b3051) ?_ (fun hJ3052 => ?_)
                        · clear H hI
                          rintro b3051 _ _ ⟨_, rfl, hI⟩ H
                          replace H := cond_some H
                          rcases H with ⟨hc3053, H⟩ | ⟨hc3053, H⟩
                          · refine go_then' (t := b3051) (by kernel_rfl) hc3053 ?_
                            refine go_seq ?_
                            refine r_in ?_
                            refine o_batch 0 [] [.p] [(4, .bool false)] [] trivial trivial (by kernel_rfl) (by kernel_rfl) (by kernel_rfl) ?_
                            refine r_out (by kernel_rfl) ?_
                            replace H := out_some H
                            obtain ⟨_, H, he4⟩ := H
                            have he := (hout4 _ he4).symm
                            subst he
                            replace H := out_some H
                            obtain ⟨_, H, he3⟩ := H
                            have he := (hout3 _ he3).symm
                            subst he
                            replace H := out_some H
                            obtain ⟨_, H, he2⟩ := H
                            have he := (hout2 _ he2).symm
                            subst he
                            replace H := out_some H
                            obtain ⟨_, H, he1⟩ := H
                            have he := (hout1 _ he1).symm
                            subst he
                            replace H := Option.some.inj H
                            subst H
                            exact go_return (.bool false) Tryd.func7 (by kernel_rfl) ⟨rfl, hI.pick [] (by decide) rfl⟩
                          · refine go_else' (t := b3051) (by kernel_rfl) hc3053 ?_
                            refine go_skip ?_
                            refine go_seq ?_
                            refine r_in ?_
                            refine o_batch 0 [] [.p] [(20, .int .i64 0)] [] trivial trivial (by kernel_rfl) (by kernel_rfl) (by kernel_rfl) ?_
                            refine r_out (by kernel_rfl) ?_
                            refine go_block ?_
                            refine go_iter (assizelaw06zGraphRounds.s12 a0 y15 x2781) (fun x3195 f w => ∃ (j : Nat → Value), f = updL j [(1, .int .i64 a1), (2, .pointer (some ⟨b2, 0, none⟩)), (5, .slice A17 y15.1.length c18), (7, .slice A25 y23.1.length c26), (8, .bool y23.2.1), (16, .slice A1828 l1827.length c1829), (18, .int .i64 x2781), (19, .pointer (some ⟨b3010, 0, none⟩)), (20, .int .i64 x3195)] ∧ Inv M w [.blk b2 24 [.int .i64 a0.N, .slice (some ⟨b3008, q3009, none⟩) a0.Edges.length c0z0], .row (tSlice 4 tBool) 27 A17 y15.1.length c18 y15.1, .row (tInt .i64) 3 A25 y23.1.length c26 y23.1, .row (tInt .i64) 3 A1828 l1827.length c1829 l1827, .blk b3010 40 [.int .i64 ((idx a0.Edges x2781).From), .int .i64 ((idx a0.Edges x2781).To), .int .i64 ((idx a0.Edges x2781).Kind), .int .i64 ((idx a0.Edges x2781).Key)]]) H ⟨_, at_slots _ (by kernel_rfl), hI⟩ ?_
                            clear H hI
                            rintro x3195 _ _ o5 H ⟨_, rfl, hI⟩ hin5 hout5
                            refine go_seq ?_
                            refine go_seq ?_
                            refine r_in ?_
                            refine o_batch 0 [(b2, 0, [.int .i64 a0.N, .slice (some ⟨b3008, q3009, none⟩) a0.Edges.length c0z0])] [.p, .p, .l 0 0, .p] [(238, .int .i64 x3195), (239, .pointer (some ⟨b2, 0, none⟩)), (240, .int .i64 a0.N), (241, .bool (decide (x3195 < a0.N)))] [] ⟨(hI.grp 0 rfl), trivial⟩ trivial (by kernel_rfl) (by kernel_rfl) (by kernel_rfl) ?_
                            refine r_out (by kernel_rfl) ?_
                            replace H := cond_some H
                            rcases H with ⟨hc3197, H⟩ | ⟨hc3197, H⟩
                            · refine go_then' (t := decide (x3195 < a0.N)) (by kernel_rfl) hc3197 ?_
                              refine go_skip ?_
                              refine go_seq ?_
                              refine go_block ?_
                              refine go_seq_join (o := o5) (fun b3271 f w => ∃ (j : Nat → Value), f = updL j [(1, .int .i64 a1), (2, .pointer (some ⟨b2, 0, none⟩)), (5, .slice A17 y15.1.length c18), (7, .slice A25 y23.1.length c26), (8, .bool y23.2.1), (16, .slice A1828 l1827.length c1829), (18, .int .i64 x2781), (19, .pointer (some ⟨b3010, 0, none⟩)), (20, .int .i64 x3195), (262, .bool b3271)] ∧ Inv M w [.blk b2 24 [.int .i64 a0.N, .slice (some ⟨b3008, q3009, none⟩) a0.Edges.length c0z0], .row (tSlice 4 tBool) 27 A17 y15.1.length c18 y15.1, .row (tInt .i64) 3 A25 y23.1.length c26 y23.1, .row (tInt .i64) 3 A1828 l1827.length c1829 l1827, .blk b3010 40 [.int .i64 ((idx a0.Edges x2781).From), .int .i64 ((idx a0.Edges x2781).To), .int .i64 ((idx a0.Edges x2781).Kind), .int .i64 ((idx a0.Edges x2781).Key)]]) (fun b3271 => assizelaw06zGraphRounds.j13 x3195 b3271) ?_ (fun hJ3272 => ?_)
                              · clear H hI
                                rintro b3271 _ _ ⟨_, rfl, hI⟩ H
                                replace H := cond_some H
                                rcases H with ⟨hc3273, H⟩ | ⟨hc3273, H⟩
                                · refine go_then' (t := b3271) (by kernel_rfl) hc3273 ?_
                                  refine go_seq ?_
                                  refine r_in ?_
                                  refine o_batch 0 [] [.p] [(4, .bool false)] [] trivial trivial (by kernel_rfl) (by kernel_rfl) (by kernel_rfl) ?_
                                  refine r_out (by kernel_rfl) ?_
                                  replace H := out_some H
                                  obtain ⟨_, H, he5⟩ := H
                                  have he := (hout5 _ he5).symm
                                  subst he
                                  replace H := out_some H
                                  obtain ⟨_, H, he4⟩ := H
                                  have he := (hout4 _ he4).symm
                                  subst he
                                  replace H := out_some H
                                  obtain ⟨_, H, he3⟩ := H
                                  have he := (hout3 _ he3).symm
                                  subst he
                                  replace H := out_some H
                                  obtain ⟨_, H, he2⟩ := H
                                  have he := (hout2 _ he2).symm
                                  subst he
                                  replace H := out_some H
                                  obtain ⟨_, H, he1⟩ := H
                                  have he := (hout1 _ he1).symm
                                  subst he
                                  replace H := Option.some.inj H
                                  subst H
                                  exact go_return (.bool false) Tryd.func7 (by kernel_rfl) ⟨rfl, hI.pick [] (by decide) rfl⟩
                                · refine go_else' (t := b3271) (by kernel_rfl) hc3273 ?_
                                  refine go_skip ?_
                                  refine go_inBlock ?_
                                  refine r_in ?_
                                  refine o_batch 0 [] [.p, .p, .p] [(242, .int .i64 x3195), (243, .int .i64 (w64 (x3195 + 1))), (20, .int .i64 (w64 (x3195 + 1)))] [] trivial trivial (by kernel_rfl) (by kernel_rfl) (by kernel_rfl) ?_
                                  refine r_out (by kernel_rfl) ?_
                                  exact hin5 _ (Option.some.inj H).symm _ _ ⟨_, at_slots _ (by kernel_rfl), hI⟩
                              · replace H := must_some H
                                obtain ⟨g3274, H⟩ := H
                                obtain ⟨b3275, rfl⟩ := hI.rowAt 1 rfl g3274
                                obtain ⟨cs3278, hk3277, hg3276⟩ := rdS.look (hI.row 1 rfl) (hI.rowlen 1 rfl) g3274
                                obtain ⟨A3279, c3280, rfl, hl3282, hr3281⟩ := hk3277
                                replace H := must_some H
                                obtain ⟨g3283, H⟩ := H
                                obtain ⟨b3284, q3285, rfl, _⟩ := rdS.fopen hr3281 rfl g3283
                                replace H := cond_some H
                                rcases H with ⟨hc3286, H⟩ | ⟨hc3286, H⟩
                                · obtain ⟨cs3289, hk3288, hg3287⟩ := rdS.look (hI.row 1 rfl) (hI.rowlen 1 rfl) g3274
                                  obtain ⟨A3290, c3291, rfl, hl3293, hr3292⟩ := hk3288
                                  replace H := must_some H
                                  obtain ⟨g3294, H⟩ := H
                                  obtain ⟨b3295, q3296, rfl, _⟩ := rdS.fopen hr3292 rfl g3294
                                  refine d_still [(b3275, 0 + x3195.toNat * 1, [.slice (some ⟨b3284, q3285, none⟩) ((idx y15.1 x3195).length) c3280]), (b3010, 0, [.int .i64 ((idx a0.Edges x2781).From), .int .i64 ((idx a0.Edges x2781).To), .int .i64 ((idx a0.Edges x2781).Kind), .int .i64 ((idx a0.Edges x2781).Key)]), (b3284, q3285 + ((idx a0.Edges x2781).From).toNat * 1, [.bool (idx (idx y15.1 x3195) ((idx a0.Edges x2781).From))]), (b3275, 0 + x3195.toNat * 1, [.slice (some ⟨b3295, q3296, none⟩) ((idx y15.1 x3195).length) c3291]), (b3295, q3296 + ((idx a0.Edges x2781).To).toNat * 1, [.bool (idx (idx y15.1 x3195) ((idx a0.Edges x2781).To))])] [.p, .p, .x, .l 0 0, .p, .l 1 0, .x, .l 2 0, .c true, .p, .p, .x, .l 3 0, .p, .l 1 1, .x, .l 4 0, .p, .p] [(244, .slice (some ⟨b3275, 0, none⟩) y15.1.length c18), (245, .int .i64 x3195), (246, .pointer (some ⟨b3275, 0 + x3195.toNat * 1, none⟩)), (247, .slice (some ⟨b3284, q3285, none⟩) ((idx y15.1 x3195).length) c3280), (248, .pointer (some ⟨b3010, 0, none⟩)), (249, .int .i64 ((idx a0.Edges x2781).From)), (250, .pointer (some ⟨b3284, q3285 + ((idx a0.Edges x2781).From).toNat * 1, none⟩)), (251, .bool (idx (idx y15.1 x3195) ((idx a0.Edges x2781).From))), (252, .bool true), (253, .slice (some ⟨b3275, 0, none⟩) y15.1.length c18), (254, .int .i64 x3195), (255, .pointer (some ⟨b3275, 0 + x3195.toNat * 1, none⟩)), (256, .slice (some ⟨b3295, q3296, none⟩) ((idx y15.1 x3195).length) c3291), (257, .pointer (some ⟨b3010, 1, none⟩)), (258, .int .i64 ((idx a0.Edges x2781).To)), (259, .pointer (some ⟨b3295, q3296 + ((idx a0.Edges x2781).To).toNat * 1, none⟩)), (260, .bool (idx (idx y15.1 x3195) ((idx a0.Edges x2781).To))), (261, .bool (!(idx (idx y15.1 x3195) ((idx a0.Edges x2781).To)))), (262, .bool (!(idx (idx y15.1 x3195) ((idx a0.Edges x2781).To))))] [(x3195, y15.1.length), ((idx a0.Edges x2781).From, (idx y15.1 x3195).length), ((bif (idx (idx y15.1 x3195) ((idx a0.Edges x2781).From)) == true then 0 else -1), 1), (x3195, y15.1.length), ((idx a0.Edges x2781).To, (idx y15.1 x3195).length)] (by kernel_rfl) (by kernel_rfl) rfl ⟨hg3276.ok, (hI.grp 4 rfl), (rdS.flook hr3281 rfl g3283).ok, hg3287.ok, (rdS.flook hr3292 rfl g3294).ok, trivial⟩ ⟨g3274, g3283, (bndEq hc3286), g3274, g3294, trivial⟩ (by kernel_rfl) (by kernel_rfl) (by kernel_rfl) hI ?_
                                  clear hI
                                  intro _ hI
                                  exact hJ3272 (!(idx (idx y15.1 x3195) ((idx a0.Edges x2781).To))) _ _ ⟨_, at_slots _ (by kernel_rfl), hI⟩ H
                                · refine d_still [(b3275, 0 + x3195.toNat * 1, [.slice (some ⟨b3284, q3285, none⟩) ((idx y15.1 x3195).length) c3280]), (b3010, 0, [.int .i64 ((idx a0.Edges x2781).From), .int .i64 ((idx a0.Edges x2781).To), .int .i64 ((idx a0.Edges x2781).Kind), .int .i64 ((idx a0.Edges x2781).Key)]), (b3284, q3285 + ((idx a0.Edges x2781).From).toNat * 1, [.bool (idx (idx y15.1 x3195) ((idx a0.Edges x2781).From))])] [.p, .p, .x, .l 0 0, .p, .l 1 0, .x, .l 2 0, .c false, .p, .p, .p, .p, .p, .p, .p, .p, .p, .p] [(244, .slice (some ⟨b3275, 0, none⟩) y15.1.length c18), (245, .int .i64 x3195), (246, .pointer (some ⟨b3275, 0 + x3195.toNat * 1, none⟩)), (247, .slice (some ⟨b3284, q3285, none⟩) ((idx y15.1 x3195).length) c3280), (248, .pointer (some ⟨b3010, 0, none⟩)), (249, .int .i64 ((idx a0.Edges x2781).From)), (250, .pointer (some ⟨b3284, q3285 + ((idx a0.Edges x2781).From).toNat * 1, none⟩)), (251, .bool (idx (idx y15.1 x3195) ((idx a0.Edges x2781).From))), (252, .bool false), (253, undef), (254, undef), (255, undef), (256, undef), (257, undef), (258, undef), (259, undef), (260, undef), (261, undef), (262, .bool false)] [(x3195, y15.1.length), ((idx a0.Edges x2781).From, (idx y15.1 x3195).length), ((bif (idx (idx y15.1 x3195) ((idx a0.Edges x2781).From)) == false then 0 else -1), 1)] (by kernel_rfl) (by kernel_rfl) rfl ⟨hg3276.ok, (hI.grp 4 rfl), (rdS.flook hr3281 rfl g3283).ok, trivial⟩ ⟨g3274, g3283, (bndEq hc3286), trivial⟩ (by kernel_rfl) (by kernel_rfl) (by kernel_rfl) hI ?_
                                  clear hI
                                  intro _ hI
                                  exact hJ3272 false _ _ ⟨_, at_slots _ (by kernel_rfl), hI⟩ H
                            · refine go_else' (t := decide (x3195 < a0.N)) (by kernel_rfl) hc3197 ?_
                              refine go_exit rfl ?_
                              refine go_inBlock ?_
                              replace H := out_some H
                              obtain ⟨_, H, he5⟩ := H
                              have he := (hout5 _ he5).symm
                              subst he
                              exact hJ3002 () _ _ ⟨_, at_slots _ (by kernel_rfl), hI.pick [0, 1, 2, 3] (by decide) rfl⟩ H
                        · replace H := must_some H
                          obtain ⟨g3297, H⟩ := H
                          obtain ⟨b3298, rfl⟩ := hI.rowAt 1 rfl g3297
                          obtain ⟨cs3301, hk3300, hg3299⟩ := rdS.look (hI.row 1 rfl) (hI.rowlen 1 rfl) g3297
                          obtain ⟨A3302, c3303, rfl, hl3305, hr3304⟩ := hk3300
                          replace H := must_some H
                          obtain ⟨g3306, H⟩ := H
                          obtain ⟨b3307, q3308, rfl, _⟩ := rdS.fopen hr3304 rfl g3306
                          replace H := cond_some H
                          rcases H with ⟨hc3309, H⟩ | ⟨hc3309, H⟩
                          · refine d_still [(b3010, 0, [.int .i64 ((idx a0.Edges x2781).From), .int .i64 ((idx a0.Edges x2781).To), .int .i64 ((idx a0.Edges x2781).Kind), .int .i64 ((idx a0.Edges x2781).Key)]), (b3298, 0 + ((idx a0.Edges x2781).From).toNat * 1, [.slice (some ⟨b3307, q3308, none⟩) ((idx y15.1 ((idx a0.Edges x2781).From)).length) c3303]), (b3307, q3308 + ((idx a0.Edges x2781).To).toNat * 1, [.bool (idx (idx y15.1 ((idx a0.Edges x2781).From)) ((idx a0.Edges x2781).To))])] [.p, .p, .l 0 0, .x, .l 1 0, .p, .l 0 1, .x, .l 2 0, .p, .c true, .p, .p, .p, .p, .p, .p, .p, .p, .p, .p, .p, .p, .p, .p, .p, .p, .p, .p, .p, .p, .p, .p, .p] [(204, .slice (some ⟨b3298, 0, none⟩) y15.1.length c18), (205, .pointer (some ⟨b3010, 0, none⟩)), (206, .int .i64 ((idx a0.Edges x2781).From)), (207, .pointer (some ⟨b3298, 0 + ((idx a0.Edges x2781).From).toNat * 1, none⟩)), (208, .slice (some ⟨b3307, q3308, none⟩) ((idx y15.1 ((idx a0.Edges x2781).From)).length) c3303), (209, .pointer (some ⟨b3010, 1, none⟩)), (210, .int .i64 ((idx a0.Edges x2781).To)), (211, .pointer (some ⟨b3307, q3308 + ((idx a0.Edges x2781).To).toNat * 1, none⟩)), (212, .bool (idx (idx y15.1 ((idx a0.Edges x2781).From)) ((idx a0.Edges x2781).To))), (213, .bool (!(idx (idx y15.1 ((idx a0.Edges x2781).From)) ((idx a0.Edges x2781).To)))), (214, .bool true), (215, undef), (216, undef), (217, undef), (218, undef), (219, undef), (220, undef), (221, undef), (222, undef), (223, undef), (224, undef), (225, undef), (226, undef), (227, undef), (228, undef), (229, undef), (230, undef), (231, undef), (232, undef), (233, undef), (234, undef), (235, undef), (236, undef), (237, .bool true)] [((idx a0.Edges x2781).From, y15.1.length), ((idx a0.Edges x2781).To, (idx y15.1 ((idx a0.Edges x2781).From)).length), ((bif (!(idx (idx y15.1 ((idx a0.Edges x2781).From)) ((idx a0.Edges x2781).To))) == true then 0 else -1), 1)] (by kernel_rfl) (by kernel_rfl) rfl ⟨(hI.grp 4 rfl), hg3299.ok, (rdS.flook hr3304 rfl g3306).ok, trivial⟩ ⟨g3297, g3306, (bndEq hc3309), trivial⟩ (by kernel_rfl) (by kernel_rfl) (by kernel_rfl) hI ?_
                            clear hI
                            intro _ hI
                            exact hJ3052 true _ _ ⟨_, at_slots _ (by kernel_rfl), hI⟩ H
                          · replace H := cond_some H
                            rcases H with ⟨hc3310, H⟩ | ⟨hc3310, H⟩
                            · replace H := must_some H
                              obtain ⟨g3311, H⟩ := H
                              obtain ⟨b3312, rfl⟩ := hI.rowAt 3 rfl g3311
                              replace H := cond_some H
                              rcases H with ⟨hc3313, H⟩ | ⟨hc3313, H⟩
                              · refine d_still [(b3010, 0, [.int .i64 ((idx a0.Edges x2781).From), .int .i64 ((idx a0.Edges x2781).To), .int .i64 ((idx a0.Edges x2781).Kind), .int .i64 ((idx a0.Edges x2781).Key)]), (b3298, 0 + ((idx a0.Edges x2781).From).toNat * 1, [.slice (some ⟨b3307, q3308, none⟩) ((idx y15.1 ((idx a0.Edges x2781).From)).length) c3303]), (b3307, q3308 + ((idx a0.Edges x2781).To).toNat * 1, [.bool (idx (idx y15.1 ((idx a0.Edges x2781).From)) ((idx a0.Edges x2781).To))]), (b3312, 0 + ((idx a0.Edges x2781).From).toNat * 1, [.int .i64 (idx l1827 ((idx a0.Edges x2781).From))])] [.p, .p, .l 0 0, .x, .l 1 0, .p, .l 0 1, .x, .l 2 0, .p, .c false, .p, .c true, .p, .p, .l 0 0, .x, .l 3 0, .p, .c true, .p, .p, .p, .p, .p, .p, .p, .p, .p, .p, .p, .p, .p, .p] [(204, .slice (some ⟨b3298, 0, none⟩) y15.1.length c18), (205, .pointer (some ⟨b3010, 0, none⟩)), (206, .int .i64 ((idx a0.Edges x2781).From)), (207, .pointer (some ⟨b3298, 0 + ((idx a0.Edges x2781).From).toNat * 1, none⟩)), (208, .slice (some ⟨b3307, q3308, none⟩) ((idx y15.1 ((idx a0.Edges x2781).From)).length) c3303), (209, .pointer (some ⟨b3010, 1, none⟩)), (210, .int .i64 ((idx a0.Edges x2781).To)), (211, .pointer (some ⟨b3307, q3308 + ((idx a0.Edges x2781).To).toNat * 1, none⟩)), (212, .bool (idx (idx y15.1 ((idx a0.Edges x2781).From)) ((idx a0.Edges x2781).To))), (213, .bool (!(idx (idx y15.1 ((idx a0.Edges x2781).From)) ((idx a0.Edges x2781).To)))), (214, .bool false), (215, .bool y23.2.1), (216, .bool true), (217, .slice (some ⟨b3312, 0, none⟩) l1827.length c1829), (218, .pointer (some ⟨b3010, 0, none⟩)), (219, .int .i64 ((idx a0.Edges x2781).From)), (220, .pointer (some ⟨b3312, 0 + ((idx a0.Edges x2781).From).toNat * 1, none⟩)), (221, .int .i64 (idx l1827 ((idx a0.Edges x2781).From))), (222, .bool (idx l1827 ((idx a0.Edges x2781).From) == 0)), (223, .bool true), (224, undef), (225, undef), (226, undef), (227, undef), (228, undef), (229, undef), (230, undef), (231, undef), (232, undef), (233, undef), (234, undef), (235, .bool true), (236, .bool true), (237, .bool true)] [((idx a0.Edges x2781).From, y15.1.length), ((idx a0.Edges x2781).To, (idx y15.1 ((idx a0.Edges x2781).From)).length), ((bif (!(idx (idx y15.1 ((idx a0.Edges x2781).From)) ((idx a0.Edges x2781).To))) == false then 0 else -1), 1), ((bif y23.2.1 == true then 0 else -1), 1), ((idx a0.Edges x2781).From, l1827.length), ((bif (idx l1827 ((idx a0.Edges x2781).From) == 0) == true then 0 else -1), 1)] (by kernel_rfl) (by kernel_rfl) rfl ⟨(hI.grp 4 rfl), hg3299.ok, (rdS.flook hr3304 rfl g3306).ok, (rdS.flook (hI.row 3 rfl) (hI.rowlen 3 rfl) g3311).ok, trivial⟩ ⟨g3297, g3306, (bndEq hc3309), (bndEq hc3310), g3311, (bndEq hc3313), trivial⟩ (by kernel_rfl) (by kernel_rfl) (by kernel_rfl) hI ?_
                                clear hI
                                intro _ hI
                                exact hJ3052 true _ _ ⟨_, at_slots _ (by kernel_rfl), hI⟩ H
                              · replace H := must_some H
                                obtain ⟨g3314, H⟩ := H
                                refine d_still [(b3010, 0, [.int .i64 ((idx a0.Edges x2781).From), .int .i64 ((idx a0.Edges x2781).To), .int .i64 ((idx a0.Edges x2781).Kind), .int .i64 ((idx a0.Edges x2781).Key)]), (b3298, 0 + ((idx a0.Edges x2781).From).toNat * 1, [.slice (some ⟨b3307, q3308, none⟩) ((idx y15.1 ((idx a0.Edges x2781).From)).length) c3303]), (b3307, q3308 + ((idx a0.Edges x2781).To).toNat * 1, [.bool (idx (idx y15.1 ((idx a0.Edges x2781).From)) ((idx a0.Edges x2781).To))]), (b3312, 0 + ((idx a0.Edges x2781).From).toNat * 1, [.int .i64 (idx l1827 ((idx a0.Edges x2781).From))]), (b3312, 0 + ((idx a0.Edges x2781).To).toNat * 1, [.int .i64 (idx l1827 ((idx a0.Edges x2781).To))])] [.p, .p, .l 0 0, .x, .l 1 0, .p, .l 0 1, .x, .l 2 0, .p, .c false, .p, .c true, .p, .p, .l 0 0, .x, .l 3 0, .p, .c false, .p, .p, .l 0 0, .x, .l 3 0, .p, .p, .l 0 1, .x, .l 4 0, .p, .p, .p, .p] [(204, .slice (some ⟨b3298, 0, none⟩) y15.1.length c18), (205, .pointer (some ⟨b3010, 0, none⟩)), (206, .int .i64 ((idx a0.Edges x2781).From)), (207, .pointer (some ⟨b3298, 0 + ((idx a0.Edges x2781).From).toNat * 1, none⟩)), (208, .slice (some ⟨b3307, q3308, none⟩) ((idx y15.1 ((idx a0.Edges x2781).From)).length) c3303), (209, .pointer (some ⟨b3010, 1, none⟩)), (210, .int .i64 ((idx a0.Edges x2781).To)), (211, .pointer (some ⟨b3307, q3308 + ((idx a0.Edges x2781).To).toNat * 1, none⟩)), (212, .bool (idx (idx y15.1 ((idx a0.Edges x2781).From)) ((idx a0.Edges x2781).To))), (213, .bool (!(idx (idx y15.1 ((idx a0.Edges x2781).From)) ((idx a0.Edges x2781).To)))), (214, .bool false), (215, .bool y23.2.1), (216, .bool true), (217, .slice (some ⟨b3312, 0, none⟩) l1827.length c1829), (218, .pointer (some ⟨b3010, 0, none⟩)), (219, .int .i64 ((idx a0.Edges x2781).From)), (220, .pointer (some ⟨b3312, 0 + ((idx a0.Edges x2781).From).toNat * 1, none⟩)), (221, .int .i64 (idx l1827 ((idx a0.Edges x2781).From))), (222, .bool (idx l1827 ((idx a0.Edges x2781).From) == 0)), (223, .bool false), (224, .slice (some ⟨b3312, 0, none⟩) l1827.length c1829), (225, .pointer (some ⟨b3010, 0, none⟩)), (226, .int .i64 ((idx a0.Edges x2781).From)), (227, .pointer (some ⟨b3312, 0 + ((idx a0.Edges x2781).From).toNat * 1, none⟩)), (228, .int .i64 (idx l1827 ((idx a0.Edges x2781).From))), (229, .slice (some ⟨b3312, 0, none⟩) l1827.length c1829), (230, .pointer (some ⟨b3010, 1, none⟩)), (231, .int .i64 ((idx a0.Edges x2781).To)), (232, .pointer (some ⟨b3312, 0 + ((idx a0.Edges x2781).To).toNat * 1, none⟩)), (233, .int .i64 (idx l1827 ((idx a0.Edges x2781).To))), (234, .bool (decide (idx l1827 ((idx a0.Edges x2781).From) ≥ idx l1827 ((idx a0.Edges x2781).To)))), (235, .bool (decide (idx l1827 ((idx a0.Edges x2781).From) ≥ idx l1827 ((idx a0.Edges x2781).To)))), (236, .bool (decide (idx l1827 ((idx a0.Edges x2781).From) ≥ idx l1827 ((idx a0.Edges x2781).To)))), (237, .bool (decide (idx l1827 ((idx a0.Edges x2781).From) ≥ idx l1827 ((idx a0.Edges x2781).To))))] [((idx a0.Edges x2781).From, y15.1.length), ((idx a0.Edges x2781).To, (idx y15.1 ((idx a0.Edges x2781).From)).length), ((bif (!(idx (idx y15.1 ((idx a0.Edges x2781).From)) ((idx a0.Edges x2781).To))) == false then 0 else -1), 1), ((bif y23.2.1 == true then 0 else -1), 1), ((idx a0.Edges x2781).From, l1827.length), ((bif (idx l1827 ((idx a0.Edges x2781).From) == 0) == false then 0 else -1), 1), ((idx a0.Edges x2781).From, l1827.length), ((idx a0.Edges x2781).To, l1827.length)] (by kernel_rfl) (by kernel_rfl) rfl ⟨(hI.grp 4 rfl), hg3299.ok, (rdS.flook hr3304 rfl g3306).ok, (rdS.flook (hI.row 3 rfl) (hI.rowlen 3 rfl) g3311).ok, (rdS.flook (hI.row 3 rfl) (hI.rowlen 3 rfl) g3314).ok, trivial⟩ ⟨g3297, g3306, (bndEq hc3309), (bndEq hc3310), g3311, (bndEq hc3313), g3311, g3314, trivial⟩ (by kernel_rfl) (by kernel_rfl) (by kernel_rfl) hI ?_
                                clear hI
                                intro _ hI
                                exact hJ3052 (decide (idx l1827 ((idx a0.Edges x2781).From) ≥ idx l1827 ((idx a0.Edges x2781).To))) _ _ ⟨_, at_slots _ (by kernel_rfl), hI⟩ H
                            · refine d_still [(b3010, 0, [.int .i64 ((idx a0.Edges x2781).From), .int .i64 ((idx a0.Edges x2781).To), .int .i64 ((idx a0.Edges x2781).Kind), .int .i64 ((idx a0.Edges x2781).Key)]), (b3298, 0 + ((idx a0.Edges x2781).From).toNat * 1, [.slice (some ⟨b3307, q3308, none⟩) ((idx y15.1 ((idx a0.Edges x2781).From)).length) c3303]), (b3307, q3308 + ((idx a0.Edges x2781).To).toNat * 1, [.bool (idx (idx y15.1 ((idx a0.Edges x2781).From)) ((idx a0.Edges x2781).To))])] [.p, .p, .l 0 0, .x, .l 1 0, .p, .l 0 1, .x, .l 2 0, .p, .c false, .p, .c false, .p, .p, .p, .p, .p, .p, .p, .p, .p, .p, .p, .p, .p, .p, .p, .p, .p, .p, .p, .p, .p] [(204, .slice (some ⟨b3298, 0, none⟩) y15.1.length c18), (205, .pointer (some ⟨b3010, 0, none⟩)), (206, .int .i64 ((idx a0.Edges x2781).From)), (207, .pointer (some ⟨b3298, 0 + ((idx a0.Edges x2781).From).toNat * 1, none⟩)), (208, .slice (some ⟨b3307, q3308, none⟩) ((idx y15.1 ((idx a0.Edges x2781).From)).length) c3303), (209, .pointer (some ⟨b3010, 1, none⟩)), (210, .int .i64 ((idx a0.Edges x2781).To)), (211, .pointer (some ⟨b3307, q3308 + ((idx a0.Edges x2781).To).toNat * 1, none⟩)), (212, .bool (idx (idx y15.1 ((idx a0.Edges x2781).From)) ((idx a0.Edges x2781).To))), (213, .bool (!(idx (idx y15.1 ((idx a0.Edges x2781).From)) ((idx a0.Edges x2781).To)))), (214, .bool false), (215, .bool y23.2.1), (216, .bool false), (217, undef), (218, undef), (219, undef), (220, undef), (221, undef), (222, undef), (223, undef), (224, undef), (225, undef), (226, undef), (227, undef), (228, undef), (229, undef), (230, undef), (231, undef), (232, undef), (233, undef), (234, undef), (235, undef), (236, .bool false), (237, .bool false)] [((idx a0.Edges x2781).From, y15.1.length), ((idx a0.Edges x2781).To, (idx y15.1 ((idx a0.Edges x2781).From)).length), ((bif (!(idx (idx y15.1 ((idx a0.Edges x2781).From)) ((idx a0.Edges x2781).To))) == false then 0 else -1), 1), ((bif y23.2.1 == false then 0 else -1), 1)] (by kernel_rfl) (by kernel_rfl) rfl ⟨(hI.grp 4 rfl), hg3299.ok, (rdS.flook hr3304 rfl g3306).ok, trivial⟩ ⟨g3297, g3306, (bndEq hc3309), (bndEq hc3310), trivial⟩ (by kernel_rfl) (by kernel_rfl) (by kernel_rfl) hI ?_
                              clear hI
                              intro _ hI
                              exact hJ3052 false _ _ ⟨_, at_slots _ (by kernel_rfl), hI⟩ H
                  · refine go_else' (t := decide (x2781 < (a0.Edges.length : Int))) (by kernel_rfl) hc2783 ?_
                    refine go_exit rfl ?_
                    refine go_seq ?_
                    refine r_in ?_
                    replace H := cond_some H
                    rcases H with ⟨hc3316, H⟩ | ⟨hc3316, H⟩
                    · refine o_batch 0 [(b2, 0, [.int .i64 a0.N, .slice A0z0 a0.Edges.length c0z0])] [.p, .p, .p, .p, .l 0 0, .p, .p, .c true, .p, .p, .p, .p, .p] [(263, .bool y23.2.1), (264, .slice A25 y23.1.length c26), (265, .int .i64 (y23.1.length : Int)), (266, .pointer (some ⟨b2, 0, none⟩)), (267, .int .i64 a0.N), (268, .bool ((y23.1.length : Int) == a0.N)), (269, .bool (y23.2.1 == ((y23.1.length : Int) == a0.N))), (270, .bool true), (271, undef), (272, undef), (273, undef), (274, .bool true), (4, .bool true)] [((bif (y23.2.1 == ((y23.1.length : Int) == a0.N)) == true then 0 else -1), 1)] ⟨(hI.grp 0 rfl), trivial⟩ ⟨(bndEq hc3316), trivial⟩ (by kernel_rfl) (by kernel_rfl) (by kernel_rfl) ?_
                      refine r_out (by kernel_rfl) ?_
                      replace H := out_some H
                      obtain ⟨_, H, he4⟩ := H
                      have he := (hout4 _ he4).symm
                      subst he
                      replace H := out_some H
                      obtain ⟨_, H, he3⟩ := H
                      have he := (hout3 _ he3).symm
                      subst he
                      replace H := out_some H
                      obtain ⟨_, H, he2⟩ := H
                      have he := (hout2 _ he2).symm
                      subst he
                      replace H := out_some H
                      obtain ⟨_, H, he1⟩ := H
                      have he := (hout1 _ he1).symm
                      subst he
                      replace H := Option.some.inj H
                      subst H
                      exact go_return (.bool true) Tryd.func7 (by kernel_rfl) ⟨rfl, hI.pick [] (by decide) rfl⟩
                    · refine o_batch 0 [(b2, 0, [.int .i64 a0.N, .slice A0z0 a0.Edges.length c0z0])] [.p, .p, .p, .p, .l 0 0, .p, .p, .c false, .p, .l 0 0, .p, .p, .p] [(263, .bool y23.2.1), (264, .slice A25 y23.1.length c26), (265, .int .i64 (y23.1.length : Int)), (266, .pointer (some ⟨b2, 0, none⟩)), (267, .int .i64 a0.N), (268, .bool ((y23.1.length : Int) == a0.N)), (269, .bool (y23.2.1 == ((y23.1.length : Int) == a0.N))), (270, .bool false), (271, .pointer (some ⟨b2, 0, none⟩)), (272, .int .i64 a0.N), (273, .bool (a0.N == 0)), (274, .bool (a0.N == 0)), (4, .bool (a0.N == 0))] [((bif (y23.2.1 == ((y23.1.length : Int) == a0.N)) == false then 0 else -1), 1)] ⟨(hI.grp 0 rfl), trivial⟩ ⟨(bndEq hc3316), trivial⟩ (by kernel_rfl) (by kernel_rfl) (by kernel_rfl) ?_
                      refine r_out (by kernel_rfl) ?_
                      replace H := out_some H
                      obtain ⟨_, H, he4⟩ := H
                      have he := (hout4 _ he4).symm
                      subst he
                      replace H := out_some H
                      obtain ⟨_, H, he3⟩ := H
                      have he := (hout3 _ he3).symm
                      subst he
                      replace H := out_some H
                      obtain ⟨_, H, he2⟩ := H
                      have he := (hout2 _ he2).symm
                      subst he
                      replace H := out_some H
                      obtain ⟨_, H, he1⟩ := H
                      have he := (hout1 _ he1).symm
                      subst he
                      replace H := Option.some.inj H
                      subst H
                      exact go_return (.bool (a0.N == 0)) Tryd.func7 (by kernel_rfl) ⟨rfl, hI.pick [] (by decide) rfl⟩
      · refine r_in ?_
        replace H := cond_some H
        rcases H with ⟨hc3317, H⟩ | ⟨hc3317, H⟩
        · refine o_batch 0 [] [.p, .p, .c true, .p, .p, .p, .p, .p, .p, .p, .p, .p, .p, .p, .p, .p, .p, .p, .p, .p] [(56, .int .i64 y23.2.2), (57, .bool (y23.2.2 != 0)), (58, .bool true), (59, undef), (60, undef), (61, .bool true), (62, .bool true), (63, undef), (64, undef), (65, undef), (66, undef), (67, undef), (68, .bool true), (69, .bool true), (70, undef), (71, undef), (72, undef), (73, undef), (74, undef), (75, .bool true)] [((bif (y23.2.2 != 0) == true then 0 else -1), 1)] trivial ⟨(bndEq hc3317), trivial⟩ (by kernel_rfl) (by kernel_rfl) (by kernel_rfl) ?_
          refine r_out (by kernel_rfl) ?_
          exact hJ53 true _ _ ⟨_, at_slots _ (by kernel_rfl), hI⟩ H
        · replace H := cond_some H
          rcases H with ⟨hc3318, H⟩ | ⟨hc3318, H⟩
          · refine o_batch 0 [] [.p, .p, .c false, .p, .p, .p, .c true, .p, .p, .p, .p, .p, .p, .p, .p, .p, .p, .p, .p, .p] [(56, .int .i64 y23.2.2), (57, .bool (y23.2.2 != 0)), (58, .bool false), (59, .int .i64 y31.2), (60, .bool (y31.2 != 0)), (61, .bool (y31.2 != 0)), (62, .bool true), (63, undef), (64, undef), (65, undef), (66, undef), (67, undef), (68, .bool true), (69, .bool true), (70, undef), (71, undef), (72, undef), (73, undef), (74, undef), (75, .bool true)] [((bif (y23.2.2 != 0) == false then 0 else -1), 1), ((bif (y31.2 != 0) == true then 0 else -1), 1)] trivial ⟨(bndEq hc3317), (bndEq hc3318), trivial⟩ (by kernel_rfl) (by kernel_rfl) (by kernel_rfl) ?_
            refine r_out (by kernel_rfl) ?_
            exact hJ53 true _ _ ⟨_, at_slots _ (by kernel_rfl), hI⟩ H
          · replace H := cond_some H
            rcases H with ⟨hc3319, H⟩ | ⟨hc3319, H⟩
            · refine o_batch 0 [(b2, 0, [.int .i64 a0.N, .slice A0z0 a0.Edges.length c0z0])] [.p, .p, .c false, .p, .p, .p, .c false, .p, .p, .p, .l 0 0, .p, .p, .c true, .p, .p, .p, .p, .p, .p] [(56, .int .i64 y23.2.2), (57, .bool (y23.2.2 != 0)), (58, .bool false), (59, .int .i64 y31.2), (60, .bool (y31.2 != 0)), (61, .bool (y31.2 != 0)), (62, .bool false), (63, .slice A17 y15.1.length c18), (64, .int .i64 (y15.1.length : Int)), (65, .pointer (some ⟨b2, 0, none⟩)), (66, .int .i64 a0.N), (67, .bool ((y15.1.length : Int) != a0.N)), (68, .bool ((y15.1.length : Int) != a0.N)), (69, .bool true), (70, undef), (71, undef), (72, undef), (73, undef), (74, undef), (75, .bool true)] [((bif (y23.2.2 != 0) == false then 0 else -1), 1), ((bif (y31.2 != 0) == false then 0 else -1), 1), ((bif ((y15.1.length : Int) != a0.N) == true then 0 else -1), 1)] ⟨(hI.grp 0 rfl), trivial⟩ ⟨(bndEq hc3317), (bndEq hc3318), (bndEq hc3319), trivial⟩ (by kernel_rfl) (by kernel_rfl) (by kernel_rfl) ?_
              refine r_out (by kernel_rfl) ?_
              exact hJ53 true _ _ ⟨_, at_slots _ (by kernel_rfl), hI⟩ H
            · refine o_batch 0 [(b2, 0, [.int .i64 a0.N, .slice A0z0 a0.Edges.length c0z0])] [.p, .p, .c false, .p, .p, .p, .c false, .p, .p, .p, .l 0 0, .p, .p, .c false, .p, .p, .p, .l 0 0, .p, .p] [(56, .int .i64 y23.2.2), (57, .bool (y23.2.2 != 0)), (58, .bool false), (59, .int .i64 y31.2), (60, .bool (y31.2 != 0)), (61, .bool (y31.2 != 0)), (62, .bool false), (63, .slice A17 y15.1.length c18), (64, .int .i64 (y15.1.length : Int)), (65, .pointer (some ⟨b2, 0, none⟩)), (66, .int .i64 a0.N), (67, .bool ((y15.1.length : Int) != a0.N)), (68, .bool ((y15.1.length : Int) != a0.N)), (69, .bool false), (70, .slice A33 y31.1.length c34), (71, .int .i64 (y31.1.length : Int)), (72, .pointer (some ⟨b2, 0, none⟩)), (73, .int .i64 a0.N), (74, .bool ((y31.1.length : Int) != a0.N)), (75, .bool ((y31.1.length : Int) != a0.N))] [((bif (y23.2.2 != 0) == false then 0 else -1), 1), ((bif (y31.2 != 0) == false then 0 else -1), 1), ((bif ((y15.1.length : Int) != a0.N) == false then 0 else -1), 1)] ⟨(hI.grp 0 rfl), trivial⟩ ⟨(bndEq hc3317), (bndEq hc3318), (bndEq hc3319), trivial⟩ (by kernel_rfl) (by kernel_rfl) (by kernel_rfl) ?_
              refine r_out (by kernel_rfl) ?_
              exact hJ53 ((y31.1.length : Int) != a0.N) _ _ ⟨_, at_slots _ (by kernel_rfl), hI⟩ H

end Go.Proofs.YtncapkloanfmnaaDoorT
