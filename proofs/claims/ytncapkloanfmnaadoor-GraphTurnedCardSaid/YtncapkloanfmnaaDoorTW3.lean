/- The walks, part 3: each call computes its plain function. -/
import Derived.Test.YtncapkloanfmnaaDoorTW2
import Derived.Shelf.Spec.TrailingZeros
import Derived.Test.YtncapkloanfmnaaDoorProg
namespace Go.Proofs.YtncapkloanfmnaaDoorT
open Go Go.Proofs Go.Shelf Go.Proofs.YtncapkloanfmnaaDoorE
set_option linter.unusedVariables false
set_option linter.unusedSimpArgs false
set_option maxHeartbeats 0
set_option maxRecDepth 4096
/-! ### graph.Parts -/
theorem enter23 (a : Array Value) : Sem.pureRun Tryd.prog (callFunc 23 a) = some (.enter 23 a) := by kernel_rfl
theorem graph_Parts_calls (a0 : Graph) (A0z0 : Option Addr) (c0z0 : Nat) (a1 : Int) (M : Mem) (w : World) (hI : Inv M w []) (hT : TabM M.blk) (hr0z0 : rdS kEdge M.blk A0z0 a0.Edges) (hl0z0 : a0.Edges.length ≤ c0z0) (r : List Int × Int) (H : graph_Parts a0 a1 = some r) :
    Calls Tryd.prog 23 #[.agg #[.int .i64 a0.N, .slice A0z0 a0.Edges.length c0z0], .int .i64 a1] w fun e w' => ∃ (A1192 : Option Addr) (c1193 : Nat), e = .returned (.tuple #[.slice A1192 r.1.length c1193, .int .i64 r.2]) ∧ Inv M w' [.row (tInt .i64) 3 A1192 r.1.length c1193 r.1] := by
  refine calls_go (updL (fun _ => undef) [(0, .agg #[.int .i64 a0.N, .slice A0z0 a0.Edges.length c0z0]), (1, .int .i64 a1)]) Tryd.func23 rfl (by kernel_rfl) ?_
  intro cs
  unfold graph_Parts at H
  refine go_seq ?_
  refine r_in ?_
  refine o_eff 0 _ rfl (by kernel_rfl) ?_
  refine e_box 24 _ (.agg #[.int .i64 a0.N, .slice A0z0 a0.Edges.length c0z0]) [.int .i64 a0.N, .slice A0z0 a0.Edges.length c0z0] rfl (by kernel_rfl) rfl hI ?_
  clear hI
  intro b2 _ hI
  refine o_batch 1 [] [.p, .p] [(4, .slice none 0 0), (5, .int .i64 0)] [] trivial trivial (by kernel_rfl) (by kernel_rfl) (by kernel_rfl) ?_
  refine r_out (by kernel_rfl) ?_
  refine go_seq ?_
  refine go_seq ?_
  refine r_in ?_
  refine o_batch 0 [(b2, 0, [.int .i64 a0.N, .slice A0z0 a0.Edges.length c0z0])] [.l 0 0] [(9, .agg #[.int .i64 a0.N, .slice A0z0 a0.Edges.length c0z0])] [] ⟨(hI.grp 0 rfl), trivial⟩ trivial (by kernel_rfl) (by kernel_rfl) (by kernel_rfl) ?_
  replace H := bind_some H
  obtain ⟨y8, hy9, H⟩ := H
  refine o_eff 1 _ rfl (by kernel_rfl) ?_
  refine e_callf _ _ _ 18 #[] #[] #[.agg #[.int .i64 a0.N, .slice A0z0 a0.Edges.length c0z0]] #[.agg #[.int .i64 a0.N, .slice A0z0 a0.Edges.length c0z0]] rfl (by kernel_rfl) (by kernel_rfl) (by kernel_rfl) (enter18 _) (graph_Check_calls a0 A0z0 c0z0 (memOf _) _ (Inv.start _) (hI.rd hr0z0) hl0z0 _ hy9) ?_
  rintro _ _ ⟨rfl, hI'⟩
  replace hI := hI.call0 hI'
  clear hI'
  refine ⟨_, rfl, ?_⟩
  refine o_batch 2 [] [.p] [(6, .int .i64 y8)] [] trivial trivial (by kernel_rfl) (by kernel_rfl) (by kernel_rfl) ?_
  refine r_out (by kernel_rfl) ?_
  refine go_seq ?_
  refine r_in ?_
  refine o_batch 0 [] [.p, .p] [(11, .int .i64 y8), (12, .bool (y8 != 0))] [] trivial trivial (by kernel_rfl) (by kernel_rfl) (by kernel_rfl) ?_
  refine r_out (by kernel_rfl) ?_
  replace H := cond_some H
  rcases H with ⟨hc10, H⟩ | ⟨hc10, H⟩
  · refine go_then' (t := (y8 != 0)) (by kernel_rfl) hc10 ?_
    refine go_seq ?_
    refine r_in ?_
    refine o_batch 0 [] [.p, .p, .p] [(13, .int .i64 y8), (4, .slice none 0 0), (5, .int .i64 y8)] [] trivial trivial (by kernel_rfl) (by kernel_rfl) (by kernel_rfl) ?_
    refine r_out (by kernel_rfl) ?_
    replace H := Option.some.inj H
    subst H
    exact go_return (.tuple #[.slice none 0 0, .int .i64 y8]) Tryd.func23 (by kernel_rfl) ⟨none, 0, rfl, (hI.nilrow (tInt .i64) 3).pick [1] (by decide) rfl⟩
  · refine go_else' (t := (y8 != 0)) (by kernel_rfl) hc10 ?_
    refine go_skip ?_
    refine go_seq_join (o := r) (fun l229 f w => ∃ (j : Nat → Value) (b228 : Nat) (A230 : Option Addr) (c231 : Nat) (A232 : Option Addr) (c233 : Nat) (A234 : Option Addr) (c235 : Nat) (A236 : Option Addr) (c237 : Nat), f = updL j [(2, .pointer (some ⟨b2, 0, none⟩)), (7, .pointer (some ⟨b228, 0, none⟩))] ∧ Inv M w [.blk b2 24 [.int .i64 a0.N, .slice A0z0 a0.Edges.length c0z0], .blk b228 65 [.slice A230 l229.length c231, .slice A232 ((List.replicate a0.N.toNat (default : Int)).length) c233, .slice A234 ((List.replicate a0.N.toNat (default : Int)).length) c235, .slice A236 ((List.replicate a0.N.toNat (default : Int)).length) c237, .slice none 0 0, .int .i64 0, .int .i64 0], .row (tInt .u64) 54 A230 l229.length c231 l229, .row (tInt .i64) 3 A232 ((List.replicate a0.N.toNat (default : Int)).length) c233 (List.replicate a0.N.toNat (default : Int)), .row (tInt .i64) 3 A234 ((List.replicate a0.N.toNat (default : Int)).length) c235 (List.replicate a0.N.toNat (default : Int)), .row (tInt .i64) 3 A236 ((List.replicate a0.N.toNat (default : Int)).length) c237 (List.replicate a0.N.toNat (default : Int))]) (fun l229 => graph_Parts.j1 a0 l229) ?_ (fun hJ238 => ?_)
    · clear H hI
      rintro l229 _ _ ⟨_, b228, A230, c231, A232, c233, A234, c235, A236, c237, rfl, hI⟩ H
      refine go_seq ?_
      refine go_seq ?_
      refine r_in ?_
      refine o_batch 0 [(b2, 0, [.int .i64 a0.N, .slice A0z0 a0.Edges.length c0z0])] [.p, .l 0 0, .p] [(28, .pointer (some ⟨b2, 0, none⟩)), (29, .int .i64 a0.N), (30, .int .i64 0)] [] ⟨(hI.grp 0 rfl), trivial⟩ trivial (by kernel_rfl) (by kernel_rfl) (by kernel_rfl) ?_
      refine r_out (by kernel_rfl) ?_
      refine go_block ?_
      refine go_iter (graph_Parts.s2 a0) (fun (l849, l852, l855, l858, l861, x864, x865, x866) f w => ∃ (j : Nat → Value) (A850 : Option Addr) (c851 : Nat) (A853 : Option Addr) (c854 : Nat) (A856 : Option Addr) (c857 : Nat) (A859 : Option Addr) (c860 : Nat) (A862 : Option Addr) (c863 : Nat), f = updL j [(7, .pointer (some ⟨b228, 0, none⟩)), (29, .int .i64 a0.N), (30, .int .i64 x866)] ∧ Inv M w [.blk b228 65 [.slice A850 l849.length c851, .slice A853 l852.length c854, .slice A856 l855.length c857, .slice A859 l858.length c860, .slice A862 l861.length c863, .int .i64 x864, .int .i64 x865], .row (tInt .u64) 54 A850 l849.length c851 l849, .row (tInt .i64) 3 A853 l852.length c854 l852, .row (tInt .i64) 3 A856 l855.length c857 l855, .row (tInt .i64) 3 A859 l858.length c860 l858, .row (tInt .i64) 3 A862 l861.length c863 l861]) H ⟨_, A230, c231, A232, c233, A234, c235, A236, c237, none, 0, at_slots _ (by kernel_rfl), (hI.nilrow (tInt .i64) 3).pick [1, 2, 3, 4, 5, 6] (by decide) rfl⟩ ?_
      clear H hI
      rintro ⟨l849, l852, l855, l858, l861, x864, x865, x866⟩ _ _ o1 H ⟨_, A850, c851, A853, c854, A856, c857, A859, c860, A862, c863, rfl, hI⟩ hin1 hout1
      refine go_seq ?_
      refine r_in ?_
      refine o_batch 0 [] [.p] [(31, .bool (decide (x866 < a0.N)))] [] trivial trivial (by kernel_rfl) (by kernel_rfl) (by kernel_rfl) ?_
      refine r_out (by kernel_rfl) ?_
      refine go_seq ?_
      replace H := cond_some H
      rcases H with ⟨hc868, H⟩ | ⟨hc868, H⟩
      · refine go_then' (t := decide (x866 < a0.N)) (by kernel_rfl) hc868 ?_
        refine go_skip ?_
        refine go_seq ?_
        refine go_block_join (o := o1) (fun (l926, l929, l932, l935, l938, x941, x942) f w => ∃ (j : Nat → Value) (A927 : Option Addr) (c928 : Nat) (A930 : Option Addr) (c931 : Nat) (A933 : Option Addr) (c934 : Nat) (A936 : Option Addr) (c937 : Nat) (A939 : Option Addr) (c940 : Nat), f = updL j [(7, .pointer (some ⟨b228, 0, none⟩)), (29, .int .i64 a0.N), (30, .int .i64 x866)] ∧ Inv M w [.blk b228 65 [.slice A927 l926.length c928, .slice A930 l929.length c931, .slice A933 l932.length c934, .slice A936 l935.length c937, .slice A939 l938.length c940, .int .i64 x941, .int .i64 x942], .row (tInt .u64) 54 A927 l926.length c928 l926, .row (tInt .i64) 3 A930 l929.length c931 l929, .row (tInt .i64) 3 A933 l932.length c934 l932, .row (tInt .i64) 3 A936 l935.length c937 l935, .row (tInt .i64) 3 A939 l938.length c940 l938]) (fun (l926, l929, l932, l935, l938, x941, x942) => graph_Parts.j3 x866 l926 l929 l932 l935 l938 x941 x942) ?_ (fun hJ943 => ?_)
        · clear H hI
          rintro ⟨l926, l929, l932, l935, l938, x941, x942⟩ _ _ ⟨_, A927, c928, A930, c931, A933, c934, A936, c937, A939, c940, rfl, hI⟩ H
          refine r_in ?_
          refine o_batch 0 [] [.p, .p] [(44, .int .i64 (w64 (x866 + 1))), (30, .int .i64 (w64 (x866 + 1)))] [] trivial trivial (by kernel_rfl) (by kernel_rfl) (by kernel_rfl) ?_
          refine r_out (by kernel_rfl) ?_
          exact hin1 _ (Option.some.inj H).symm _ _ ⟨_, A927, c928, A930, c931, A933, c934, A936, c937, A939, c940, at_slots _ (by kernel_rfl), hI⟩
        · refine go_seq ?_
          refine r_in ?_
          refine o_batch 0 [] [.p, .p] [(32, .int .i64 x866), (8, .int .i64 x866)] [] trivial trivial (by kernel_rfl) (by kernel_rfl) (by kernel_rfl) ?_
          refine r_out (by kernel_rfl) ?_
          refine go_seq ?_
          refine r_in ?_
          replace H := must_some H
          obtain ⟨g946, H⟩ := H
          obtain ⟨b947, rfl⟩ := hI.rowAt 2 rfl g946
          refine o_batch 0 [(b228, 0, [.slice A850 l849.length c851, .slice (some ⟨b947, 0, none⟩) l852.length c854, .slice A856 l855.length c857, .slice A859 l858.length c860, .slice A862 l861.length c863, .int .i64 x864, .int .i64 x865]), (b947, 0 + x866.toNat * 1, [.int .i64 (idx l852 x866)])] [.p, .p, .p, .l 0 1, .p, .x, .l 1 0, .p] [(33, .pointer (some ⟨b228, 0, none⟩)), (34, .pointer (some ⟨b228, 0, none⟩)), (35, .pointer (some ⟨b228, 1, none⟩)), (36, .slice (some ⟨b947, 0, none⟩) l852.length c854), (37, .int .i64 x866), (38, .pointer (some ⟨b947, 0 + x866.toNat * 1, none⟩)), (39, .int .i64 (idx l852 x866)), (40, .bool (idx l852 x866 == 0))] [(x866, l852.length)] ⟨(hI.grp 0 rfl), (rdS.flook (hI.row 2 rfl) (hI.rowlen 2 rfl) g946).ok, trivial⟩ ⟨g946, trivial⟩ (by kernel_rfl) (by kernel_rfl) (by kernel_rfl) ?_
          refine r_out (by kernel_rfl) ?_
          replace H := cond_some H
          rcases H with ⟨hc948, H⟩ | ⟨hc948, H⟩
          · refine go_then' (t := (idx l852 x866 == 0)) (by kernel_rfl) hc948 ?_
            refine r_in ?_
            refine o_batch 0 [] [.p, .p] [(41, .pointer (some ⟨b228, 0, none⟩)), (42, .int .i64 x866)] [] trivial trivial (by kernel_rfl) (by kernel_rfl) (by kernel_rfl) ?_
            replace H := bind_some H
            obtain ⟨y954, hy955, H⟩ := H
            obtain ⟨M949, hJ950, hs951, hro952, hback953⟩ := hI.call (R := [.blk b228 65 [.slice A850 l849.length c851, .slice (some ⟨b947, 0, none⟩) l852.length c854, .slice A856 l855.length c857, .slice A859 l858.length c860, .slice A862 l861.length c863, .int .i64 x864, .int .i64 x865], .row (tInt .u64) 54 A850 l849.length c851 l849, .row (tInt .i64) 3 (some ⟨b947, 0, none⟩) l852.length c854 l852, .row (tInt .i64) 3 A856 l855.length c857 l855, .row (tInt .i64) 3 A859 l858.length c860 l858, .row (tInt .i64) 3 A862 l861.length c863 l861]) (L0 := []) [0, 1, 2, 3, 4, 5] [] (by decide) rfl
            refine o_eff 2 _ rfl (by kernel_rfl) ?_
            refine e_callf _ _ _ 37 #[] #[] #[.pointer (some ⟨b228, 0, none⟩), .int .i64 x866] #[.pointer (some ⟨b228, 0, none⟩), .int .i64 x866] rfl (by kernel_rfl) (by kernel_rfl) (by kernel_rfl) (enter37 _) (graph_walk_down_calls b228 (⟨l849, l852, l855, l858, l861, x864, x865⟩ : GraphWalk) A850 c851 (some ⟨b947, 0, none⟩) c854 A856 c857 A859 c860 A862 c863 x866 M949 _ hJ950 (rdS.mono hT hs951) _ hy955) ?_
            rintro _ _ ⟨A956, c957, A958, c959, A960, c961, A962, c963, A964, c965, rfl, hI'⟩
            replace hI := hback953 _ _ hI'
            clear hI'
            refine ⟨_, rfl, ?_⟩
            refine r_out (by kernel_rfl) ?_
            refine go_inBlock ?_
            exact hJ943 (y954.steps, y954.num, y954.low, y954.part, y954.open_, y954.count, y954.parts) _ _ ⟨_, A956, c957, A958, c959, A960, c961, A962, c963, A964, c965, at_slots _ (by kernel_rfl), hI⟩ H
          · refine go_else' (t := (idx l852 x866 == 0)) (by kernel_rfl) hc948 ?_
            refine go_skip ?_
            refine go_inBlock ?_
            exact hJ943 (l849, l852, l855, l858, l861, x864, x865) _ _ ⟨_, A850, c851, (some ⟨b947, 0, none⟩), c854, A856, c857, A859, c860, A862, c863, at_slots _ (by kernel_rfl), hI⟩ H
      · refine go_else' (t := decide (x866 < a0.N)) (by kernel_rfl) hc868 ?_
        refine go_exit rfl ?_
        refine go_seq ?_
        refine r_in ?_
        refine o_batch 0 [(b228, 0, [.slice A850 l849.length c851, .slice A853 l852.length c854, .slice A856 l855.length c857, .slice A859 l858.length c860, .slice A862 l861.length c863, .int .i64 x864, .int .i64 x865])] [.p, .p, .p, .l 0 3] [(45, .pointer (some ⟨b228, 0, none⟩)), (46, .pointer (some ⟨b228, 0, none⟩)), (47, .pointer (some ⟨b228, 3, none⟩)), (48, .slice A859 l858.length c860)] [] ⟨(hI.grp 0 rfl), trivial⟩ trivial (by kernel_rfl) (by kernel_rfl) (by kernel_rfl) ?_
        replace H := bind_some H
        obtain ⟨y970, hy971, H⟩ := H
        refine o_eff 4 _ rfl (by kernel_rfl) ?_
        refine e_callf _ _ _ 38 #[] #[] #[.slice A859 l858.length c860] #[.slice A859 l858.length c860] rfl (by kernel_rfl) (by kernel_rfl) (by kernel_rfl) (enter38 _) (graph_renumbered_calls A859 c860 l858 (memOf _) _ (Inv.start _) (hI.row 4 rfl) (hI.rowle 4 rfl) _ hy971) ?_
        rintro _ _ ⟨A972, c973, rfl, hI'⟩
        replace hI := hI.call0 hI'
        clear hI'
        refine ⟨_, rfl, ?_⟩
        refine o_batch 5 [] [.p, .p] [(4, .slice A972 y970.length c973), (5, .int .i64 0)] [] trivial trivial (by kernel_rfl) (by kernel_rfl) (by kernel_rfl) ?_
        refine r_out (by kernel_rfl) ?_
        replace H := out_some H
        obtain ⟨_, H, he1⟩ := H
        have he := (hout1 _ he1).symm
        subst he
        replace H := Option.some.inj H
        subst H
        exact go_return (.tuple #[.slice A972 y970.length c973, .int .i64 0]) Tryd.func23 (by kernel_rfl) ⟨A972, c973, rfl, hI.pick [6] (by decide) rfl⟩
    · replace H := bind_some H
      obtain ⟨y974, hy975, H⟩ := H
      replace H := must_some H
      obtain ⟨g978, H⟩ := H
      refine go_held (fun w => Inv M w [.blk b2 24 [.int .i64 a0.N, .slice A0z0 a0.Edges.length c0z0]]) (by kernel_rfl) ?_
      replace hI := hI.drew'
      refine held_batch (n := 7) [(b2, 0, [.int .i64 a0.N, .slice A0z0 a0.Edges.length c0z0])] [(0, .l 0 0), (1, .p), (3, .p), (4, .l 0 0), (6, .p), (7, .l 0 0), (9, .p), (10, .l 0 0)] [(14, .agg #[.int .i64 a0.N, .slice A0z0 a0.Edges.length c0z0]), (15, .int .i64 a1), (17, .pointer (some ⟨b2, 0, none⟩)), (18, .int .i64 a0.N), (20, .pointer (some ⟨b2, 0, none⟩)), (21, .int .i64 a0.N), (23, .pointer (some ⟨b2, 0, none⟩)), (24, .int .i64 a0.N)] [] [true, true, false, true, true, false, true, true, false, true, true, false, false, false, false] (by kernel_rfl) (fun w hS => ⟨(hS.grp 0 rfl), trivial⟩) hI trivial (by kernel_rfl) (by kernel_rfl) (by kernel_rfl) ?_
      refine held_each (n := 6) [2, 5, 8, 11] (by simp) (by kernel_rfl) ⟨⟨_, rfl, by kernel_rfl, ?_⟩, ⟨_, rfl, by kernel_rfl, ?_⟩, ⟨_, rfl, by kernel_rfl, ?_⟩, ⟨_, rfl, by kernel_rfl, ?_⟩, trivial⟩
      · refine (e_callf _ _ _ 32 #[] #[] #[.agg #[.int .i64 a0.N, .slice A0z0 a0.Edges.length c0z0], .int .i64 a1] #[.agg #[.int .i64 a0.N, .slice A0z0 a0.Edges.length c0z0], .int .i64 a1] rfl (by kernel_rfl) (by kernel_rfl) (by kernel_rfl) (enter32 _) (graph_rows_calls a0 A0z0 c0z0 a1 (memOf _) _ (Inv.start _) (hI.rd hr0z0) hl0z0 _ hy975) ?_)
        rintro _ _ ⟨A988, c989, rfl, hI'⟩
        replace hI := hI.call0 hI'
        clear hI'
        refine ⟨_, rfl, ?_⟩
        refine ⟨(hI.pick [0] (by decide) rfl), ?_⟩
        refine held_each (n := 5) [5, 8, 11] (by simp) (by kernel_rfl) ⟨⟨_, rfl, by kernel_rfl, ?_⟩, ⟨_, rfl, by kernel_rfl, ?_⟩, ⟨_, rfl, by kernel_rfl, ?_⟩, trivial⟩
        · refine (e_make (tInt .i64) (default : Int) 43 3 _ _ _ (.int .i64 0) a0.N rfl rfl rfl rfl rfl rfl (fun _ => rfl) (by kernel_rfl) (by kernel_rfl) g978 hI ?_)
          clear hI
          intro b993 _ hI
          refine ⟨(hI.pick [0] (by decide) rfl), ?_⟩
          refine held_each (n := 4) [8, 11] (by simp) (by kernel_rfl) ⟨⟨_, rfl, by kernel_rfl, ?_⟩, ⟨_, rfl, by kernel_rfl, ?_⟩, trivial⟩
          · refine (e_make (tInt .i64) (default : Int) 43 3 _ _ _ (.int .i64 0) a0.N rfl rfl rfl rfl rfl rfl (fun _ => rfl) (by kernel_rfl) (by kernel_rfl) g978 hI ?_)
            clear hI
            intro b996 _ hI
            refine ⟨(hI.pick [0] (by decide) rfl), ?_⟩
            refine held_one (n := 3) 11 _ rfl (by kernel_rfl) (by kernel_rfl) (e_make (tInt .i64) (default : Int) 43 3 _ _ _ (.int .i64 0) a0.N rfl rfl rfl rfl rfl rfl (fun _ => rfl) (by kernel_rfl) (by kernel_rfl) g978 hI ?_)
            clear hI
            intro b998 _ hI
            refine ⟨(hI.pick [0] (by decide) rfl), ?_⟩
            refine held_batch (n := 2) [] [(12, .p)] [(26, .agg #[.slice A988 y974.length c989, .slice (some ⟨b993, 0, none⟩) a0.N.toNat a0.N.toNat, .slice (some ⟨b996, 0, none⟩) a0.N.toNat a0.N.toNat, .slice (some ⟨b998, 0, none⟩) a0.N.toNat a0.N.toNat, .slice none 0 0, .int .i64 0, .int .i64 0])] [] [true, true, true, true, true, true, true, true, true, true, true, true, true, false, false] (by kernel_rfl) (fun w hS => trivial) (hI.pick [0] (by decide) rfl) trivial (by kernel_rfl) (by kernel_rfl) (by kernel_rfl) ?_
            refine held_one (n := 1) 13 _ rfl (by kernel_rfl) (by kernel_rfl) (e_box 65 _ (.agg #[.slice A988 y974.length c989, .slice (some ⟨b993, 0, none⟩) a0.N.toNat a0.N.toNat, .slice (some ⟨b996, 0, none⟩) a0.N.toNat a0.N.toNat, .slice (some ⟨b998, 0, none⟩) a0.N.toNat a0.N.toNat, .slice none 0 0, .int .i64 0, .int .i64 0]) [.slice A988 y974.length c989, .slice (some ⟨b993, 0, none⟩) a0.N.toNat a0.N.toNat, .slice (some ⟨b996, 0, none⟩) a0.N.toNat a0.N.toNat, .slice (some ⟨b998, 0, none⟩) a0.N.toNat a0.N.toNat, .slice none 0 0, .int .i64 0, .int .i64 0] rfl (by kernel_rfl) rfl hI ?_)
            clear hI
            intro b1000 _ hI
            refine ⟨(hI.pick [0] (by decide) rfl), ?_⟩
            refine held_batch (n := 0) [] [(14, .p)] [(7, .pointer (some ⟨b1000, 0, none⟩))] [] [true, true, true, true, true, true, true, true, true, true, true, true, true, true, true] (by kernel_rfl) (fun w hS => trivial) (hI.pick [0] (by decide) rfl) trivial (by kernel_rfl) (by kernel_rfl) (by kernel_rfl) ?_
            refine held_done (by kernel_rfl) ?_
            replace hI := hI.renum 2 rfl
            replace hI := hI.renum 3 rfl
            replace hI := hI.renum 4 rfl
            replace hI := hI.recell 5 [.slice A988 y974.length c989, .slice (some ⟨b993, 0, none⟩) ((List.replicate a0.N.toNat (default : Int)).length) a0.N.toNat, .slice (some ⟨b996, 0, none⟩) ((List.replicate a0.N.toNat (default : Int)).length) a0.N.toNat, .slice (some ⟨b998, 0, none⟩) ((List.replicate a0.N.toNat (default : Int)).length) a0.N.toNat, .slice none 0 0, .int .i64 0, .int .i64 0] (by first | rfl | simp only [List.length_set, List.length_replicate, List.length_nil]) rfl
            exact hJ238 y974 _ _ ⟨_, b1000, A988, c989, (some ⟨b993, 0, none⟩), a0.N.toNat, (some ⟨b996, 0, none⟩), a0.N.toNat, (some ⟨b998, 0, none⟩), a0.N.toNat, at_slots _ (by kernel_rfl), hI.pick [0, 5, 1, 2, 3, 4] (by decide) rfl⟩ H
          · refine (e_make (tInt .i64) (default : Int) 43 3 _ _ _ (.int .i64 0) a0.N rfl rfl rfl rfl rfl rfl (fun _ => rfl) (by kernel_rfl) (by kernel_rfl) g978 hI ?_)
            clear hI
            intro b1001 _ hI
            refine ⟨(hI.pick [0] (by decide) rfl), ?_⟩
            refine held_one (n := 3) 8 _ rfl (by kernel_rfl) (by kernel_rfl) (e_make (tInt .i64) (default : Int) 43 3 _ _ _ (.int .i64 0) a0.N rfl rfl rfl rfl rfl rfl (fun _ => rfl) (by kernel_rfl) (by kernel_rfl) g978 hI ?_)
            clear hI
            intro b1003 _ hI
            refine ⟨(hI.pick [0] (by decide) rfl), ?_⟩
            refine held_batch (n := 2) [] [(12, .p)] [(26, .agg #[.slice A988 y974.length c989, .slice (some ⟨b993, 0, none⟩) a0.N.toNat a0.N.toNat, .slice (some ⟨b1003, 0, none⟩) a0.N.toNat a0.N.toNat, .slice (some ⟨b1001, 0, none⟩) a0.N.toNat a0.N.toNat, .slice none 0 0, .int .i64 0, .int .i64 0])] [] [true, true, true, true, true, true, true, true, true, true, true, true, true, false, false] (by kernel_rfl) (fun w hS => trivial) (hI.pick [0] (by decide) rfl) trivial (by kernel_rfl) (by kernel_rfl) (by kernel_rfl) ?_
            refine held_one (n := 1) 13 _ rfl (by kernel_rfl) (by kernel_rfl) (e_box 65 _ (.agg #[.slice A988 y974.length c989, .slice (some ⟨b993, 0, none⟩) a0.N.toNat a0.N.toNat, .slice (some ⟨b1003, 0, none⟩) a0.N.toNat a0.N.toNat, .slice (some ⟨b1001, 0, none⟩) a0.N.toNat a0.N.toNat, .slice none 0 0, .int .i64 0, .int .i64 0]) [.slice A988 y974.length c989, .slice (some ⟨b993, 0, none⟩) a0.N.toNat a0.N.toNat, .slice (some ⟨b1003, 0, none⟩) a0.N.toNat a0.N.toNat, .slice (some ⟨b1001, 0, none⟩) a0.N.toNat a0.N.toNat, .slice none 0 0, .int .i64 0, .int .i64 0] rfl (by kernel_rfl) rfl hI ?_)
            clear hI
            intro b1005 _ hI
            refine ⟨(hI.pick [0] (by decide) rfl), ?_⟩
            refine held_batch (n := 0) [] [(14, .p)] [(7, .pointer (some ⟨b1005, 0, none⟩))] [] [true, true, true, true, true, true, true, true, true, true, true, true, true, true, true] (by kernel_rfl) (fun w hS => trivial) (hI.pick [0] (by decide) rfl) trivial (by kernel_rfl) (by kernel_rfl) (by kernel_rfl) ?_
            refine held_done (by kernel_rfl) ?_
            replace hI := hI.renum 2 rfl
            replace hI := hI.renum 3 rfl
            replace hI := hI.renum 4 rfl
            replace hI := hI.recell 5 [.slice A988 y974.length c989, .slice (some ⟨b993, 0, none⟩) ((List.replicate a0.N.toNat (default : Int)).length) a0.N.toNat, .slice (some ⟨b1003, 0, none⟩) ((List.replicate a0.N.toNat (default : Int)).length) a0.N.toNat, .slice (some ⟨b1001, 0, none⟩) ((List.replicate a0.N.toNat (default : Int)).length) a0.N.toNat, .slice none 0 0, .int .i64 0, .int .i64 0] (by first | rfl | simp only [List.length_set, List.length_replicate, List.length_nil]) rfl
            exact hJ238 y974 _ _ ⟨_, b1005, A988, c989, (some ⟨b993, 0, none⟩), a0.N.toNat, (some ⟨b1003, 0, none⟩), a0.N.toNat, (some ⟨b1001, 0, none⟩), a0.N.toNat, at_slots _ (by kernel_rfl), hI.pick [0, 5, 1, 2, 4, 3] (by decide) rfl⟩ H
        · refine (e_make (tInt .i64) (default : Int) 43 3 _ _ _ (.int .i64 0) a0.N rfl rfl rfl rfl rfl rfl (fun _ => rfl) (by kernel_rfl) (by kernel_rfl) g978 hI ?_)
          clear hI
          intro b1006 _ hI
          refine ⟨(hI.pick [0] (by decide) rfl), ?_⟩
          refine held_each (n := 4) [5, 11] (by simp) (by kernel_rfl) ⟨⟨_, rfl, by kernel_rfl, ?_⟩, ⟨_, rfl, by kernel_rfl, ?_⟩, trivial⟩
          · refine (e_make (tInt .i64) (default : Int) 43 3 _ _ _ (.int .i64 0) a0.N rfl rfl rfl rfl rfl rfl (fun _ => rfl) (by kernel_rfl) (by kernel_rfl) g978 hI ?_)
            clear hI
            intro b1009 _ hI
            refine ⟨(hI.pick [0] (by decide) rfl), ?_⟩
            refine held_one (n := 3) 11 _ rfl (by kernel_rfl) (by kernel_rfl) (e_make (tInt .i64) (default : Int) 43 3 _ _ _ (.int .i64 0) a0.N rfl rfl rfl rfl rfl rfl (fun _ => rfl) (by kernel_rfl) (by kernel_rfl) g978 hI ?_)
            clear hI
            intro b1011 _ hI
            refine ⟨(hI.pick [0] (by decide) rfl), ?_⟩
            refine held_batch (n := 2) [] [(12, .p)] [(26, .agg #[.slice A988 y974.length c989, .slice (some ⟨b1009, 0, none⟩) a0.N.toNat a0.N.toNat, .slice (some ⟨b1006, 0, none⟩) a0.N.toNat a0.N.toNat, .slice (some ⟨b1011, 0, none⟩) a0.N.toNat a0.N.toNat, .slice none 0 0, .int .i64 0, .int .i64 0])] [] [true, true, true, true, true, true, true, true, true, true, true, true, true, false, false] (by kernel_rfl) (fun w hS => trivial) (hI.pick [0] (by decide) rfl) trivial (by kernel_rfl) (by kernel_rfl) (by kernel_rfl) ?_
            refine held_one (n := 1) 13 _ rfl (by kernel_rfl) (by kernel_rfl) (e_box 65 _ (.agg #[.slice A988 y974.length c989, .slice (some ⟨b1009, 0, none⟩) a0.N.toNat a0.N.toNat, .slice (some ⟨b1006, 0, none⟩) a0.N.toNat a0.N.toNat, .slice (some ⟨b1011, 0, none⟩) a0.N.toNat a0.N.toNat, .slice none 0 0, .int .i64 0, .int .i64 0]) [.slice A988 y974.length c989, .slice (some ⟨b1009, 0, none⟩) a0.N.toNat a0.N.toNat, .slice (some ⟨b1006, 0, none⟩) a0.N.toNat a0.N.toNat, .slice (some ⟨b1011, 0, none⟩) a0.N.toNat a0.N.toNat, .slice none 0 0, .int .i64 0, .int .i64 0] rfl (by kernel_rfl) rfl hI ?_)
            clear hI
            intro b1013 _ hI
            refine ⟨(hI.pick [0] (by decide) rfl), ?_⟩
            refine held_batch (n := 0) [] [(14, .p)] [(7, .pointer (some ⟨b1013, 0, none⟩))] [] [true, true, true, true, true, true, true, true, true, true, true, true, true, true, true] (by kernel_rfl) (fun w hS => trivial) (hI.pick [0] (by decide) rfl) trivial (by kernel_rfl) (by kernel_rfl) (by kernel_rfl) ?_
            refine held_done (by kernel_rfl) ?_
            replace hI := hI.renum 2 rfl
            replace hI := hI.renum 3 rfl
            replace hI := hI.renum 4 rfl
            replace hI := hI.recell 5 [.slice A988 y974.length c989, .slice (some ⟨b1009, 0, none⟩) ((List.replicate a0.N.toNat (default : Int)).length) a0.N.toNat, .slice (some ⟨b1006, 0, none⟩) ((List.replicate a0.N.toNat (default : Int)).length) a0.N.toNat, .slice (some ⟨b1011, 0, none⟩) ((List.replicate a0.N.toNat (default : Int)).length) a0.N.toNat, .slice none 0 0, .int .i64 0, .int .i64 0] (by first | rfl | simp only [List.length_set, List.length_replicate, List.length_nil]) rfl
            exact hJ238 y974 _ _ ⟨_, b1013, A988, c989, (some ⟨b1009, 0, none⟩), a0.N.toNat, (some ⟨b1006, 0, none⟩), a0.N.toNat, (some ⟨b1011, 0, none⟩), a0.N.toNat, at_slots _ (by kernel_rfl), hI.pick [0, 5, 1, 3, 2, 4] (by decide) rfl⟩ H
          · refine (e_make (tInt .i64) (default : Int) 43 3 _ _ _ (.int .i64 0) a0.N rfl rfl rfl rfl rfl rfl (fun _ => rfl) (by kernel_rfl) (by kernel_rfl) g978 hI ?_)
            clear hI
            intro b1014 _ hI
            refine ⟨(hI.pick [0] (by decide) rfl), ?_⟩
            refine held_one (n := 3) 5 _ rfl (by kernel_rfl) (by kernel_rfl) (e_make (tInt .i64) (default : Int) 43 3 _ _ _ (.int .i64 0) a0.N rfl rfl rfl rfl rfl rfl (fun _ => rfl) (by kernel_rfl) (by kernel_rfl) g978 hI ?_)
            clear hI
            intro b1016 _ hI
            refine ⟨(hI.pick [0] (by decide) rfl), ?_⟩
            refine held_batch (n := 2) [] [(12, .p)] [(26, .agg #[.slice A988 y974.length c989, .slice (some ⟨b1016, 0, none⟩) a0.N.toNat a0.N.toNat, .slice (some ⟨b1006, 0, none⟩) a0.N.toNat a0.N.toNat, .slice (some ⟨b1014, 0, none⟩) a0.N.toNat a0.N.toNat, .slice none 0 0, .int .i64 0, .int .i64 0])] [] [true, true, true, true, true, true, true, true, true, true, true, true, true, false, false] (by kernel_rfl) (fun w hS => trivial) (hI.pick [0] (by decide) rfl) trivial (by kernel_rfl) (by kernel_rfl) (by kernel_rfl) ?_
            refine held_one (n := 1) 13 _ rfl (by kernel_rfl) (by kernel_rfl) (e_box 65 _ (.agg #[.slice A988 y974.length c989, .slice (some ⟨b1016, 0, none⟩) a0.N.toNat a0.N.toNat, .slice (some ⟨b1006, 0, none⟩) a0.N.toNat a0.N.toNat, .slice (some ⟨b1014, 0, none⟩) a0.N.toNat a0.N.toNat, .slice none 0 0, .int .i64 0, .int .i64 0]) [.slice A988 y974.length c989, .slice (some ⟨b1016, 0, none⟩) a0.N.toNat a0.N.toNat, .slice (some ⟨b1006, 0, none⟩) a0.N.toNat a0.N.toNat, .slice (some ⟨b1014, 0, none⟩) a0.N.toNat a0.N.toNat, .slice none 0 0, .int .i64 0, .int .i64 0] rfl (by kernel_rfl) rfl hI ?_)
            clear hI
            intro b1018 _ hI
            refine ⟨(hI.pick [0] (by decide) rfl), ?_⟩
            refine held_batch (n := 0) [] [(14, .p)] [(7, .pointer (some ⟨b1018, 0, none⟩))] [] [true, true, true, true, true, true, true, true, true, true, true, true, true, true, true] (by kernel_rfl) (fun w hS => trivial) (hI.pick [0] (by decide) rfl) trivial (by kernel_rfl) (by kernel_rfl) (by kernel_rfl) ?_
            refine held_done (by kernel_rfl) ?_
            replace hI := hI.renum 2 rfl
            replace hI := hI.renum 3 rfl
            replace hI := hI.renum 4 rfl
            replace hI := hI.recell 5 [.slice A988 y974.length c989, .slice (some ⟨b1016, 0, none⟩) ((List.replicate a0.N.toNat (default : Int)).length) a0.N.toNat, .slice (some ⟨b1006, 0, none⟩) ((List.replicate a0.N.toNat (default : Int)).length) a0.N.toNat, .slice (some ⟨b1014, 0, none⟩) ((List.replicate a0.N.toNat (default : Int)).length) a0.N.toNat, .slice none 0 0, .int .i64 0, .int .i64 0] (by first | rfl | simp only [List.length_set, List.length_replicate, List.length_nil]) rfl
            exact hJ238 y974 _ _ ⟨_, b1018, A988, c989, (some ⟨b1016, 0, none⟩), a0.N.toNat, (some ⟨b1006, 0, none⟩), a0.N.toNat, (some ⟨b1014, 0, none⟩), a0.N.toNat, at_slots _ (by kernel_rfl), hI.pick [0, 5, 1, 4, 2, 3] (by decide) rfl⟩ H
        · refine (e_make (tInt .i64) (default : Int) 43 3 _ _ _ (.int .i64 0) a0.N rfl rfl rfl rfl rfl rfl (fun _ => rfl) (by kernel_rfl) (by kernel_rfl) g978 hI ?_)
          clear hI
          intro b1019 _ hI
          refine ⟨(hI.pick [0] (by decide) rfl), ?_⟩
          refine held_each (n := 4) [5, 8] (by simp) (by kernel_rfl) ⟨⟨_, rfl, by kernel_rfl, ?_⟩, ⟨_, rfl, by kernel_rfl, ?_⟩, trivial⟩
          · refine (e_make (tInt .i64) (default : Int) 43 3 _ _ _ (.int .i64 0) a0.N rfl rfl rfl rfl rfl rfl (fun _ => rfl) (by kernel_rfl) (by kernel_rfl) g978 hI ?_)
            clear hI
            intro b1022 _ hI
            refine ⟨(hI.pick [0] (by decide) rfl), ?_⟩
            refine held_one (n := 3) 8 _ rfl (by kernel_rfl) (by kernel_rfl) (e_make (tInt .i64) (default : Int) 43 3 _ _ _ (.int .i64 0) a0.N rfl rfl rfl rfl rfl rfl (fun _ => rfl) (by kernel_rfl) (by kernel_rfl) g978 hI ?_)
            clear hI
            intro b1024 _ hI
            refine ⟨(hI.pick [0] (by decide) rfl), ?_⟩
            refine held_batch (n := 2) [] [(12, .p)] [(26, .agg #[.slice A988 y974.length c989, .slice (some ⟨b1022, 0, none⟩) a0.N.toNat a0.N.toNat, .slice (some ⟨b1024, 0, none⟩) a0.N.toNat a0.N.toNat, .slice (some ⟨b1019, 0, none⟩) a0.N.toNat a0.N.toNat, .slice none 0 0, .int .i64 0, .int .i64 0])] [] [true, true, true, true, true, true, true, true, true, true, true, true, true, false, false] (by kernel_rfl) (fun w hS => trivial) (hI.pick [0] (by decide) rfl) trivial (by kernel_rfl) (by kernel_rfl) (by kernel_rfl) ?_
            refine held_one (n := 1) 13 _ rfl (by kernel_rfl) (by kernel_rfl) (e_box 65 _ (.agg #[.slice A988 y974.length c989, .slice (some ⟨b1022, 0, none⟩) a0.N.toNat a0.N.toNat, .slice (some ⟨b1024, 0, none⟩) a0.N.toNat a0.N.toNat, .slice (some ⟨b1019, 0, none⟩) a0.N.toNat a0.N.toNat, .slice none 0 0, .int .i64 0, .int .i64 0]) [.slice A988 y974.length c989, .slice (some ⟨b1022, 0, none⟩) a0.N.toNat a0.N.toNat, .slice (some ⟨b1024, 0, none⟩) a0.N.toNat a0.N.toNat, .slice (some ⟨b1019, 0, none⟩) a0.N.toNat a0.N.toNat, .slice none 0 0, .int .i64 0, .int .i64 0] rfl (by kernel_rfl) rfl hI ?_)
            clear hI
            intro b1026 _ hI
            refine ⟨(hI.pick [0] (by decide) rfl), ?_⟩
            refine held_batch (n := 0) [] [(14, .p)] [(7, .pointer (some ⟨b1026, 0, none⟩))] [] [true, true, true, true, true, true, true, true, true, true, true, true, true, true, true] (by kernel_rfl) (fun w hS => trivial) (hI.pick [0] (by decide) rfl) trivial (by kernel_rfl) (by kernel_rfl) (by kernel_rfl) ?_
            refine held_done (by kernel_rfl) ?_
            replace hI := hI.renum 2 rfl
            replace hI := hI.renum 3 rfl
            replace hI := hI.renum 4 rfl
            replace hI := hI.recell 5 [.slice A988 y974.length c989, .slice (some ⟨b1022, 0, none⟩) ((List.replicate a0.N.toNat (default : Int)).length) a0.N.toNat, .slice (some ⟨b1024, 0, none⟩) ((List.replicate a0.N.toNat (default : Int)).length) a0.N.toNat, .slice (some ⟨b1019, 0, none⟩) ((List.replicate a0.N.toNat (default : Int)).length) a0.N.toNat, .slice none 0 0, .int .i64 0, .int .i64 0] (by first | rfl | simp only [List.length_set, List.length_replicate, List.length_nil]) rfl
            exact hJ238 y974 _ _ ⟨_, b1026, A988, c989, (some ⟨b1022, 0, none⟩), a0.N.toNat, (some ⟨b1024, 0, none⟩), a0.N.toNat, (some ⟨b1019, 0, none⟩), a0.N.toNat, at_slots _ (by kernel_rfl), hI.pick [0, 5, 1, 3, 4, 2] (by decide) rfl⟩ H
          · refine (e_make (tInt .i64) (default : Int) 43 3 _ _ _ (.int .i64 0) a0.N rfl rfl rfl rfl rfl rfl (fun _ => rfl) (by kernel_rfl) (by kernel_rfl) g978 hI ?_)
            clear hI
            intro b1027 _ hI
            refine ⟨(hI.pick [0] (by decide) rfl), ?_⟩
            refine held_one (n := 3) 5 _ rfl (by kernel_rfl) (by kernel_rfl) (e_make (tInt .i64) (default : Int) 43 3 _ _ _ (.int .i64 0) a0.N rfl rfl rfl rfl rfl rfl (fun _ => rfl) (by kernel_rfl) (by kernel_rfl) g978 hI ?_)
            clear hI
            intro b1029 _ hI
            refine ⟨(hI.pick [0] (by decide) rfl), ?_⟩
            refine held_batch (n := 2) [] [(12, .p)] [(26, .agg #[.slice A988 y974.length c989, .slice (some ⟨b1029, 0, none⟩) a0.N.toNat a0.N.toNat, .slice (some ⟨b1027, 0, none⟩) a0.N.toNat a0.N.toNat, .slice (some ⟨b1019, 0, none⟩) a0.N.toNat a0.N.toNat, .slice none 0 0, .int .i64 0, .int .i64 0])] [] [true, true, true, true, true, true, true, true, true, true, true, true, true, false, false] (by kernel_rfl) (fun w hS => trivial) (hI.pick [0] (by decide) rfl) trivial (by kernel_rfl) (by kernel_rfl) (by kernel_rfl) ?_
            refine held_one (n := 1) 13 _ rfl (by kernel_rfl) (by kernel_rfl) (e_box 65 _ (.agg #[.slice A988 y974.length c989, .slice (some ⟨b1029, 0, none⟩) a0.N.toNat a0.N.toNat, .slice (some ⟨b1027, 0, none⟩) a0.N.toNat a0.N.toNat, .slice (some ⟨b1019, 0, none⟩) a0.N.toNat a0.N.toNat, .slice none 0 0, .int .i64 0, .int .i64 0]) [.slice A988 y974.length c989, .slice (some ⟨b1029, 0, none⟩) a0.N.toNat a0.N.toNat, .slice (some ⟨b1027, 0, none⟩) a0.N.toNat a0.N.toNat, .slice (some ⟨b1019, 0, none⟩) a0.N.toNat a0.N.toNat, .slice none 0 0, .int .i64 0, .int .i64 0] rfl (by kernel_rfl) rfl hI ?_)
            clear hI
            intro b1031 _ hI
            refine ⟨(hI.pick [0] (by decide) rfl), ?_⟩
            refine held_batch (n := 0) [] [(14, .p)] [(7, .pointer (some ⟨b1031, 0, none⟩))] [] [true, true, true, true, true, true, true, true, true, true, true, true, true, true, true] (by kernel_rfl) (fun w hS => trivial) (hI.pick [0] (by decide) rfl) trivial (by kernel_rfl) (by kernel_rfl) (by kernel_rfl) ?_
            refine held_done (by kernel_rfl) ?_
            replace hI := hI.renum 2 rfl
            replace hI := hI.renum 3 rfl
            replace hI := hI.renum 4 rfl
            replace hI := hI.recell 5 [.slice A988 y974.length c989, .slice (some ⟨b1029, 0, none⟩) ((List.replicate a0.N.toNat (default : Int)).length) a0.N.toNat, .slice (some ⟨b1027, 0, none⟩) ((List.replicate a0.N.toNat (default : Int)).length) a0.N.toNat, .slice (some ⟨b1019, 0, none⟩) ((List.replicate a0.N.toNat (default : Int)).length) a0.N.toNat, .slice none 0 0, .int .i64 0, .int .i64 0] (by first | rfl | simp only [List.length_set, List.length_replicate, List.length_nil]) rfl
            exact hJ238 y974 _ _ ⟨_, b1031, A988, c989, (some ⟨b1029, 0, none⟩), a0.N.toNat, (some ⟨b1027, 0, none⟩), a0.N.toNat, (some ⟨b1019, 0, none⟩), a0.N.toNat, at_slots _ (by kernel_rfl), hI.pick [0, 5, 1, 4, 3, 2] (by decide) rfl⟩ H
      · refine (e_make (tInt .i64) (default : Int) 43 3 _ _ _ (.int .i64 0) a0.N rfl rfl rfl rfl rfl rfl (fun _ => rfl) (by kernel_rfl) (by kernel_rfl) g978 hI ?_)
        clear hI
        intro b1032 _ hI
        refine ⟨(hI.pick [0] (by decide) rfl), ?_⟩
        refine held_each (n := 5) [2, 8, 11] (by simp) (by kernel_rfl) ⟨⟨_, rfl, by kernel_rfl, ?_⟩, ⟨_, rfl, by kernel_rfl, ?_⟩, ⟨_, rfl, by kernel_rfl, ?_⟩, trivial⟩
        · refine (e_callf _ _ _ 32 #[] #[] #[.agg #[.int .i64 a0.N, .slice A0z0 a0.Edges.length c0z0], .int .i64 a1] #[.agg #[.int .i64 a0.N, .slice A0z0 a0.Edges.length c0z0], .int .i64 a1] rfl (by kernel_rfl) (by kernel_rfl) (by kernel_rfl) (enter32 _) (graph_rows_calls a0 A0z0 c0z0 a1 (memOf _) _ (Inv.start _) (hI.rd hr0z0) hl0z0 _ hy975) ?_)
          rintro _ _ ⟨A1037, c1038, rfl, hI'⟩
          replace hI := hI.call0 hI'
          clear hI'
          refine ⟨_, rfl, ?_⟩
          refine ⟨(hI.pick [0] (by decide) rfl), ?_⟩
          refine held_each (n := 4) [8, 11] (by simp) (by kernel_rfl) ⟨⟨_, rfl, by kernel_rfl, ?_⟩, ⟨_, rfl, by kernel_rfl, ?_⟩, trivial⟩
          · refine (e_make (tInt .i64) (default : Int) 43 3 _ _ _ (.int .i64 0) a0.N rfl rfl rfl rfl rfl rfl (fun _ => rfl) (by kernel_rfl) (by kernel_rfl) g978 hI ?_)
            clear hI
            intro b1041 _ hI
            refine ⟨(hI.pick [0] (by decide) rfl), ?_⟩
            refine held_one (n := 3) 11 _ rfl (by kernel_rfl) (by kernel_rfl) (e_make (tInt .i64) (default : Int) 43 3 _ _ _ (.int .i64 0) a0.N rfl rfl rfl rfl rfl rfl (fun _ => rfl) (by kernel_rfl) (by kernel_rfl) g978 hI ?_)
            clear hI
            intro b1043 _ hI
            refine ⟨(hI.pick [0] (by decide) rfl), ?_⟩
            refine held_batch (n := 2) [] [(12, .p)] [(26, .agg #[.slice A1037 y974.length c1038, .slice (some ⟨b1032, 0, none⟩) a0.N.toNat a0.N.toNat, .slice (some ⟨b1041, 0, none⟩) a0.N.toNat a0.N.toNat, .slice (some ⟨b1043, 0, none⟩) a0.N.toNat a0.N.toNat, .slice none 0 0, .int .i64 0, .int .i64 0])] [] [true, true, true, true, true, true, true, true, true, true, true, true, true, false, false] (by kernel_rfl) (fun w hS => trivial) (hI.pick [0] (by decide) rfl) trivial (by kernel_rfl) (by kernel_rfl) (by kernel_rfl) ?_
            refine held_one (n := 1) 13 _ rfl (by kernel_rfl) (by kernel_rfl) (e_box 65 _ (.agg #[.slice A1037 y974.length c1038, .slice (some ⟨b1032, 0, none⟩) a0.N.toNat a0.N.toNat, .slice (some ⟨b1041, 0, none⟩) a0.N.toNat a0.N.toNat, .slice (some ⟨b1043, 0, none⟩) a0.N.toNat a0.N.toNat, .slice none 0 0, .int .i64 0, .int .i64 0]) [.slice A1037 y974.length c1038, .slice (some ⟨b1032, 0, none⟩) a0.N.toNat a0.N.toNat, .slice (some ⟨b1041, 0, none⟩) a0.N.toNat a0.N.toNat, .slice (some ⟨b1043, 0, none⟩) a0.N.toNat a0.N.toNat, .slice none 0 0, .int .i64 0, .int .i64 0] rfl (by kernel_rfl) rfl hI ?_)
            clear hI
            intro b1045 _ hI
            refine ⟨(hI.pick [0] (by decide) rfl), ?_⟩
            refine held_batch (n := 0) [] [(14, .p)] [(7, .pointer (some ⟨b1045, 0, none⟩))] [] [true, true, true, true, true, true, true, true, true, true, true, true, true, true, true] (by kernel_rfl) (fun w hS => trivial) (hI.pick [0] (by decide) rfl) trivial (by kernel_rfl) (by kernel_rfl) (by kernel_rfl) ?_
            refine held_done (by kernel_rfl) ?_
            replace hI := hI.renum 1 rfl
            replace hI := hI.renum 3 rfl
            replace hI := hI.renum 4 rfl
            replace hI := hI.recell 5 [.slice A1037 y974.length c1038, .slice (some ⟨b1032, 0, none⟩) ((List.replicate a0.N.toNat (default : Int)).length) a0.N.toNat, .slice (some ⟨b1041, 0, none⟩) ((List.replicate a0.N.toNat (default : Int)).length) a0.N.toNat, .slice (some ⟨b1043, 0, none⟩) ((List.replicate a0.N.toNat (default : Int)).length) a0.N.toNat, .slice none 0 0, .int .i64 0, .int .i64 0] (by first | rfl | simp only [List.length_set, List.length_replicate, List.length_nil]) rfl
            exact hJ238 y974 _ _ ⟨_, b1045, A1037, c1038, (some ⟨b1032, 0, none⟩), a0.N.toNat, (some ⟨b1041, 0, none⟩), a0.N.toNat, (some ⟨b1043, 0, none⟩), a0.N.toNat, at_slots _ (by kernel_rfl), hI.pick [0, 5, 2, 1, 3, 4] (by decide) rfl⟩ H
          · refine (e_make (tInt .i64) (default : Int) 43 3 _ _ _ (.int .i64 0) a0.N rfl rfl rfl rfl rfl rfl (fun _ => rfl) (by kernel_rfl) (by kernel_rfl) g978 hI ?_)
            clear hI
            intro b1046 _ hI
            refine ⟨(hI.pick [0] (by decide) rfl), ?_⟩
            refine held_one (n := 3) 8 _ rfl (by kernel_rfl) (by kernel_rfl) (e_make (tInt .i64) (default : Int) 43 3 _ _ _ (.int .i64 0) a0.N rfl rfl rfl rfl rfl rfl (fun _ => rfl) (by kernel_rfl) (by kernel_rfl) g978 hI ?_)
            clear hI
            intro b1048 _ hI
            refine ⟨(hI.pick [0] (by decide) rfl), ?_⟩
            refine held_batch (n := 2) [] [(12, .p)] [(26, .agg #[.slice A1037 y974.length c1038, .slice (some ⟨b1032, 0, none⟩) a0.N.toNat a0.N.toNat, .slice (some ⟨b1048, 0, none⟩) a0.N.toNat a0.N.toNat, .slice (some ⟨b1046, 0, none⟩) a0.N.toNat a0.N.toNat, .slice none 0 0, .int .i64 0, .int .i64 0])] [] [true, true, true, true, true, true, true, true, true, true, true, true, true, false, false] (by kernel_rfl) (fun w hS => trivial) (hI.pick [0] (by decide) rfl) trivial (by kernel_rfl) (by kernel_rfl) (by kernel_rfl) ?_
            refine held_one (n := 1) 13 _ rfl (by kernel_rfl) (by kernel_rfl) (e_box 65 _ (.agg #[.slice A1037 y974.length c1038, .slice (some ⟨b1032, 0, none⟩) a0.N.toNat a0.N.toNat, .slice (some ⟨b1048, 0, none⟩) a0.N.toNat a0.N.toNat, .slice (some ⟨b1046, 0, none⟩) a0.N.toNat a0.N.toNat, .slice none 0 0, .int .i64 0, .int .i64 0]) [.slice A1037 y974.length c1038, .slice (some ⟨b1032, 0, none⟩) a0.N.toNat a0.N.toNat, .slice (some ⟨b1048, 0, none⟩) a0.N.toNat a0.N.toNat, .slice (some ⟨b1046, 0, none⟩) a0.N.toNat a0.N.toNat, .slice none 0 0, .int .i64 0, .int .i64 0] rfl (by kernel_rfl) rfl hI ?_)
            clear hI
            intro b1050 _ hI
            refine ⟨(hI.pick [0] (by decide) rfl), ?_⟩
            refine held_batch (n := 0) [] [(14, .p)] [(7, .pointer (some ⟨b1050, 0, none⟩))] [] [true, true, true, true, true, true, true, true, true, true, true, true, true, true, true] (by kernel_rfl) (fun w hS => trivial) (hI.pick [0] (by decide) rfl) trivial (by kernel_rfl) (by kernel_rfl) (by kernel_rfl) ?_
            refine held_done (by kernel_rfl) ?_
            replace hI := hI.renum 1 rfl
            replace hI := hI.renum 3 rfl
            replace hI := hI.renum 4 rfl
            replace hI := hI.recell 5 [.slice A1037 y974.length c1038, .slice (some ⟨b1032, 0, none⟩) ((List.replicate a0.N.toNat (default : Int)).length) a0.N.toNat, .slice (some ⟨b1048, 0, none⟩) ((List.replicate a0.N.toNat (default : Int)).length) a0.N.toNat, .slice (some ⟨b1046, 0, none⟩) ((List.replicate a0.N.toNat (default : Int)).length) a0.N.toNat, .slice none 0 0, .int .i64 0, .int .i64 0] (by first | rfl | simp only [List.length_set, List.length_replicate, List.length_nil]) rfl
            exact hJ238 y974 _ _ ⟨_, b1050, A1037, c1038, (some ⟨b1032, 0, none⟩), a0.N.toNat, (some ⟨b1048, 0, none⟩), a0.N.toNat, (some ⟨b1046, 0, none⟩), a0.N.toNat, at_slots _ (by kernel_rfl), hI.pick [0, 5, 2, 1, 4, 3] (by decide) rfl⟩ H
        · refine (e_make (tInt .i64) (default : Int) 43 3 _ _ _ (.int .i64 0) a0.N rfl rfl rfl rfl rfl rfl (fun _ => rfl) (by kernel_rfl) (by kernel_rfl) g978 hI ?_)
          clear hI
          intro b1051 _ hI
          refine ⟨(hI.pick [0] (by decide) rfl), ?_⟩
          refine held_each (n := 4) [2, 11] (by simp) (by kernel_rfl) ⟨⟨_, rfl, by kernel_rfl, ?_⟩, ⟨_, rfl, by kernel_rfl, ?_⟩, trivial⟩
          · refine (e_callf _ _ _ 32 #[] #[] #[.agg #[.int .i64 a0.N, .slice A0z0 a0.Edges.length c0z0], .int .i64 a1] #[.agg #[.int .i64 a0.N, .slice A0z0 a0.Edges.length c0z0], .int .i64 a1] rfl (by kernel_rfl) (by kernel_rfl) (by kernel_rfl) (enter32 _) (graph_rows_calls a0 A0z0 c0z0 a1 (memOf _) _ (Inv.start _) (hI.rd hr0z0) hl0z0 _ hy975) ?_)
            rintro _ _ ⟨A1055, c1056, rfl, hI'⟩
            replace hI := hI.call0 hI'
            clear hI'
            refine ⟨_, rfl, ?_⟩
            refine ⟨(hI.pick [0] (by decide) rfl), ?_⟩
            refine held_one (n := 3) 11 _ rfl (by kernel_rfl) (by kernel_rfl) (e_make (tInt .i64) (default : Int) 43 3 _ _ _ (.int .i64 0) a0.N rfl rfl rfl rfl rfl rfl (fun _ => rfl) (by kernel_rfl) (by kernel_rfl) g978 hI ?_)
            clear hI
            intro b1058 _ hI
            refine ⟨(hI.pick [0] (by decide) rfl), ?_⟩
            refine held_batch (n := 2) [] [(12, .p)] [(26, .agg #[.slice A1055 y974.length c1056, .slice (some ⟨b1032, 0, none⟩) a0.N.toNat a0.N.toNat, .slice (some ⟨b1051, 0, none⟩) a0.N.toNat a0.N.toNat, .slice (some ⟨b1058, 0, none⟩) a0.N.toNat a0.N.toNat, .slice none 0 0, .int .i64 0, .int .i64 0])] [] [true, true, true, true, true, true, true, true, true, true, true, true, true, false, false] (by kernel_rfl) (fun w hS => trivial) (hI.pick [0] (by decide) rfl) trivial (by kernel_rfl) (by kernel_rfl) (by kernel_rfl) ?_
            refine held_one (n := 1) 13 _ rfl (by kernel_rfl) (by kernel_rfl) (e_box 65 _ (.agg #[.slice A1055 y974.length c1056, .slice (some ⟨b1032, 0, none⟩) a0.N.toNat a0.N.toNat, .slice (some ⟨b1051, 0, none⟩) a0.N.toNat a0.N.toNat, .slice (some ⟨b1058, 0, none⟩) a0.N.toNat a0.N.toNat, .slice none 0 0, .int .i64 0, .int .i64 0]) [.slice A1055 y974.length c1056, .slice (some ⟨b1032, 0, none⟩) a0.N.toNat a0.N.toNat, .slice (some ⟨b1051, 0, none⟩) a0.N.toNat a0.N.toNat, .slice (some ⟨b1058, 0, none⟩) a0.N.toNat a0.N.toNat, .slice none 0 0, .int .i64 0, .int .i64 0] rfl (by kernel_rfl) rfl hI ?_)
            clear hI
            intro b1060 _ hI
            refine ⟨(hI.pick [0] (by decide) rfl), ?_⟩
            refine held_batch (n := 0) [] [(14, .p)] [(7, .pointer (some ⟨b1060, 0, none⟩))] [] [true, true, true, true, true, true, true, true, true, true, true, true, true, true, true] (by kernel_rfl) (fun w hS => trivial) (hI.pick [0] (by decide) rfl) trivial (by kernel_rfl) (by kernel_rfl) (by kernel_rfl) ?_
            refine held_done (by kernel_rfl) ?_
            replace hI := hI.renum 1 rfl
            replace hI := hI.renum 2 rfl
            replace hI := hI.renum 4 rfl
            replace hI := hI.recell 5 [.slice A1055 y974.length c1056, .slice (some ⟨b1032, 0, none⟩) ((List.replicate a0.N.toNat (default : Int)).length) a0.N.toNat, .slice (some ⟨b1051, 0, none⟩) ((List.replicate a0.N.toNat (default : Int)).length) a0.N.toNat, .slice (some ⟨b1058, 0, none⟩) ((List.replicate a0.N.toNat (default : Int)).length) a0.N.toNat, .slice none 0 0, .int .i64 0, .int .i64 0] (by first | rfl | simp only [List.length_set, List.length_replicate, List.length_nil]) rfl
            exact hJ238 y974 _ _ ⟨_, b1060, A1055, c1056, (some ⟨b1032, 0, none⟩), a0.N.toNat, (some ⟨b1051, 0, none⟩), a0.N.toNat, (some ⟨b1058, 0, none⟩), a0.N.toNat, at_slots _ (by kernel_rfl), hI.pick [0, 5, 3, 1, 2, 4] (by decide) rfl⟩ H
          · refine (e_make (tInt .i64) (default : Int) 43 3 _ _ _ (.int .i64 0) a0.N rfl rfl rfl rfl rfl rfl (fun _ => rfl) (by kernel_rfl) (by kernel_rfl) g978 hI ?_)
            clear hI
            intro b1061 _ hI
            refine ⟨(hI.pick [0] (by decide) rfl), ?_⟩
            refine held_one (n := 3) 2 _ rfl (by kernel_rfl) (by kernel_rfl) (e_callf _ _ _ 32 #[] #[] #[.agg #[.int .i64 a0.N, .slice A0z0 a0.Edges.length c0z0], .int .i64 a1] #[.agg #[.int .i64 a0.N, .slice A0z0 a0.Edges.length c0z0], .int .i64 a1] rfl (by kernel_rfl) (by kernel_rfl) (by kernel_rfl) (enter32 _) (graph_rows_calls a0 A0z0 c0z0 a1 (memOf _) _ (Inv.start _) (hI.rd hr0z0) hl0z0 _ hy975) ?_)
            rintro _ _ ⟨A1064, c1065, rfl, hI'⟩
            replace hI := hI.call0 hI'
            clear hI'
            refine ⟨_, rfl, ?_⟩
            refine ⟨(hI.pick [0] (by decide) rfl), ?_⟩
            refine held_batch (n := 2) [] [(12, .p)] [(26, .agg #[.slice A1064 y974.length c1065, .slice (some ⟨b1032, 0, none⟩) a0.N.toNat a0.N.toNat, .slice (some ⟨b1051, 0, none⟩) a0.N.toNat a0.N.toNat, .slice (some ⟨b1061, 0, none⟩) a0.N.toNat a0.N.toNat, .slice none 0 0, .int .i64 0, .int .i64 0])] [] [true, true, true, true, true, true, true, true, true, true, true, true, true, false, false] (by kernel_rfl) (fun w hS => trivial) (hI.pick [0] (by decide) rfl) trivial (by kernel_rfl) (by kernel_rfl) (by kernel_rfl) ?_
            refine held_one (n := 1) 13 _ rfl (by kernel_rfl) (by kernel_rfl) (e_box 65 _ (.agg #[.slice A1064 y974.length c1065, .slice (some ⟨b1032, 0, none⟩) a0.N.toNat a0.N.toNat, .slice (some ⟨b1051, 0, none⟩) a0.N.toNat a0.N.toNat, .slice (some ⟨b1061, 0, none⟩) a0.N.toNat a0.N.toNat, .slice none 0 0, .int .i64 0, .int .i64 0]) [.slice A1064 y974.length c1065, .slice (some ⟨b1032, 0, none⟩) a0.N.toNat a0.N.toNat, .slice (some ⟨b1051, 0, none⟩) a0.N.toNat a0.N.toNat, .slice (some ⟨b1061, 0, none⟩) a0.N.toNat a0.N.toNat, .slice none 0 0, .int .i64 0, .int .i64 0] rfl (by kernel_rfl) rfl hI ?_)
            clear hI
            intro b1067 _ hI
            refine ⟨(hI.pick [0] (by decide) rfl), ?_⟩
            refine held_batch (n := 0) [] [(14, .p)] [(7, .pointer (some ⟨b1067, 0, none⟩))] [] [true, true, true, true, true, true, true, true, true, true, true, true, true, true, true] (by kernel_rfl) (fun w hS => trivial) (hI.pick [0] (by decide) rfl) trivial (by kernel_rfl) (by kernel_rfl) (by kernel_rfl) ?_
            refine held_done (by kernel_rfl) ?_
            replace hI := hI.renum 1 rfl
            replace hI := hI.renum 2 rfl
            replace hI := hI.renum 3 rfl
            replace hI := hI.recell 5 [.slice A1064 y974.length c1065, .slice (some ⟨b1032, 0, none⟩) ((List.replicate a0.N.toNat (default : Int)).length) a0.N.toNat, .slice (some ⟨b1051, 0, none⟩) ((List.replicate a0.N.toNat (default : Int)).length) a0.N.toNat, .slice (some ⟨b1061, 0, none⟩) ((List.replicate a0.N.toNat (default : Int)).length) a0.N.toNat, .slice none 0 0, .int .i64 0, .int .i64 0] (by first | rfl | simp only [List.length_set, List.length_replicate, List.length_nil]) rfl
            exact hJ238 y974 _ _ ⟨_, b1067, A1064, c1065, (some ⟨b1032, 0, none⟩), a0.N.toNat, (some ⟨b1051, 0, none⟩), a0.N.toNat, (some ⟨b1061, 0, none⟩), a0.N.toNat, at_slots _ (by kernel_rfl), hI.pick [0, 5, 4, 1, 2, 3] (by decide) rfl⟩ H
        · refine (e_make (tInt .i64) (default : Int) 43 3 _ _ _ (.int .i64 0) a0.N rfl rfl rfl rfl rfl rfl (fun _ => rfl) (by kernel_rfl) (by kernel_rfl) g978 hI ?_)
          clear hI
          intro b1068 _ hI
          refine ⟨(hI.pick [0] (by decide) rfl), ?_⟩
          refine held_each (n := 4) [2, 8] (by simp) (by kernel_rfl) ⟨⟨_, rfl, by kernel_rfl, ?_⟩, ⟨_, rfl, by kernel_rfl, ?_⟩, trivial⟩
          · refine (e_callf _ _ _ 32 #[] #[] #[.agg #[.int .i64 a0.N, .slice A0z0 a0.Edges.length c0z0], .int .i64 a1] #[.agg #[.int .i64 a0.N, .slice A0z0 a0.Edges.length c0z0], .int .i64 a1] rfl (by kernel_rfl) (by kernel_rfl) (by kernel_rfl) (enter32 _) (graph_rows_calls a0 A0z0 c0z0 a1 (memOf _) _ (Inv.start _) (hI.rd hr0z0) hl0z0 _ hy975) ?_)
            rintro _ _ ⟨A1072, c1073, rfl, hI'⟩
            replace hI := hI.call0 hI'
            clear hI'
            refine ⟨_, rfl, ?_⟩
            refine ⟨(hI.pick [0] (by decide) rfl), ?_⟩
            refine held_one (n := 3) 8 _ rfl (by kernel_rfl) (by kernel_rfl) (e_make (tInt .i64) (default : Int) 43 3 _ _ _ (.int .i64 0) a0.N rfl rfl rfl rfl rfl rfl (fun _ => rfl) (by kernel_rfl) (by kernel_rfl) g978 hI ?_)
            clear hI
            intro b1075 _ hI
            refine ⟨(hI.pick [0] (by decide) rfl), ?_⟩
            refine held_batch (n := 2) [] [(12, .p)] [(26, .agg #[.slice A1072 y974.length c1073, .slice (some ⟨b1032, 0, none⟩) a0.N.toNat a0.N.toNat, .slice (some ⟨b1075, 0, none⟩) a0.N.toNat a0.N.toNat, .slice (some ⟨b1068, 0, none⟩) a0.N.toNat a0.N.toNat, .slice none 0 0, .int .i64 0, .int .i64 0])] [] [true, true, true, true, true, true, true, true, true, true, true, true, true, false, false] (by kernel_rfl) (fun w hS => trivial) (hI.pick [0] (by decide) rfl) trivial (by kernel_rfl) (by kernel_rfl) (by kernel_rfl) ?_
            refine held_one (n := 1) 13 _ rfl (by kernel_rfl) (by kernel_rfl) (e_box 65 _ (.agg #[.slice A1072 y974.length c1073, .slice (some ⟨b1032, 0, none⟩) a0.N.toNat a0.N.toNat, .slice (some ⟨b1075, 0, none⟩) a0.N.toNat a0.N.toNat, .slice (some ⟨b1068, 0, none⟩) a0.N.toNat a0.N.toNat, .slice none 0 0, .int .i64 0, .int .i64 0]) [.slice A1072 y974.length c1073, .slice (some ⟨b1032, 0, none⟩) a0.N.toNat a0.N.toNat, .slice (some ⟨b1075, 0, none⟩) a0.N.toNat a0.N.toNat, .slice (some ⟨b1068, 0, none⟩) a0.N.toNat a0.N.toNat, .slice none 0 0, .int .i64 0, .int .i64 0] rfl (by kernel_rfl) rfl hI ?_)
            clear hI
            intro b1077 _ hI
            refine ⟨(hI.pick [0] (by decide) rfl), ?_⟩
            refine held_batch (n := 0) [] [(14, .p)] [(7, .pointer (some ⟨b1077, 0, none⟩))] [] [true, true, true, true, true, true, true, true, true, true, true, true, true, true, true] (by kernel_rfl) (fun w hS => trivial) (hI.pick [0] (by decide) rfl) trivial (by kernel_rfl) (by kernel_rfl) (by kernel_rfl) ?_
            refine held_done (by kernel_rfl) ?_
            replace hI := hI.renum 1 rfl
            replace hI := hI.renum 2 rfl
            replace hI := hI.renum 4 rfl
            replace hI := hI.recell 5 [.slice A1072 y974.length c1073, .slice (some ⟨b1032, 0, none⟩) ((List.replicate a0.N.toNat (default : Int)).length) a0.N.toNat, .slice (some ⟨b1075, 0, none⟩) ((List.replicate a0.N.toNat (default : Int)).length) a0.N.toNat, .slice (some ⟨b1068, 0, none⟩) ((List.replicate a0.N.toNat (default : Int)).length) a0.N.toNat, .slice none 0 0, .int .i64 0, .int .i64 0] (by first | rfl | simp only [List.length_set, List.length_replicate, List.length_nil]) rfl
            exact hJ238 y974 _ _ ⟨_, b1077, A1072, c1073, (some ⟨b1032, 0, none⟩), a0.N.toNat, (some ⟨b1075, 0, none⟩), a0.N.toNat, (some ⟨b1068, 0, none⟩), a0.N.toNat, at_slots _ (by kernel_rfl), hI.pick [0, 5, 3, 1, 4, 2] (by decide) rfl⟩ H
          · refine (e_make (tInt .i64) (default : Int) 43 3 _ _ _ (.int .i64 0) a0.N rfl rfl rfl rfl rfl rfl (fun _ => rfl) (by kernel_rfl) (by kernel_rfl) g978 hI ?_)
            clear hI
            intro b1078 _ hI
            refine ⟨(hI.pick [0] (by decide) rfl), ?_⟩
            refine held_one (n := 3) 2 _ rfl (by kernel_rfl) (by kernel_rfl) (e_callf _ _ _ 32 #[] #[] #[.agg #[.int .i64 a0.N, .slice A0z0 a0.Edges.length c0z0], .int .i64 a1] #[.agg #[.int .i64 a0.N, .slice A0z0 a0.Edges.length c0z0], .int .i64 a1] rfl (by kernel_rfl) (by kernel_rfl) (by kernel_rfl) (enter32 _) (graph_rows_calls a0 A0z0 c0z0 a1 (memOf _) _ (Inv.start _) (hI.rd hr0z0) hl0z0 _ hy975) ?_)
            rintro _ _ ⟨A1081, c1082, rfl, hI'⟩
            replace hI := hI.call0 hI'
            clear hI'
            refine ⟨_, rfl, ?_⟩
            refine ⟨(hI.pick [0] (by decide) rfl), ?_⟩
            refine held_batch (n := 2) [] [(12, .p)] [(26, .agg #[.slice A1081 y974.length c1082, .slice (some ⟨b1032, 0, none⟩) a0.N.toNat a0.N.toNat, .slice (some ⟨b1078, 0, none⟩) a0.N.toNat a0.N.toNat, .slice (some ⟨b1068, 0, none⟩) a0.N.toNat a0.N.toNat, .slice none 0 0, .int .i64 0, .int .i64 0])] [] [true, true, true, true, true, true, true, true, true, true, true, true, true, false, false] (by kernel_rfl) (fun w hS => trivial) (hI.pick [0] (by decide) rfl) trivial (by kernel_rfl) (by kernel_rfl) (by kernel_rfl) ?_
            refine held_one (n := 1) 13 _ rfl (by kernel_rfl) (by kernel_rfl) (e_box 65 _ (.agg #[.slice A1081 y974.length c1082, .slice (some ⟨b1032, 0, none⟩) a0.N.toNat a0.N.toNat, .slice (some ⟨b1078, 0, none⟩) a0.N.toNat a0.N.toNat, .slice (some ⟨b1068, 0, none⟩) a0.N.toNat a0.N.toNat, .slice none 0 0, .int .i64 0, .int .i64 0]) [.slice A1081 y974.length c1082, .slice (some ⟨b1032, 0, none⟩) a0.N.toNat a0.N.toNat, .slice (some ⟨b1078, 0, none⟩) a0.N.toNat a0.N.toNat, .slice (some ⟨b1068, 0, none⟩) a0.N.toNat a0.N.toNat, .slice none 0 0, .int .i64 0, .int .i64 0] rfl (by kernel_rfl) rfl hI ?_)
            clear hI
            intro b1084 _ hI
            refine ⟨(hI.pick [0] (by decide) rfl), ?_⟩
            refine held_batch (n := 0) [] [(14, .p)] [(7, .pointer (some ⟨b1084, 0, none⟩))] [] [true, true, true, true, true, true, true, true, true, true, true, true, true, true, true] (by kernel_rfl) (fun w hS => trivial) (hI.pick [0] (by decide) rfl) trivial (by kernel_rfl) (by kernel_rfl) (by kernel_rfl) ?_
            refine held_done (by kernel_rfl) ?_
            replace hI := hI.renum 1 rfl
            replace hI := hI.renum 2 rfl
            replace hI := hI.renum 3 rfl
            replace hI := hI.recell 5 [.slice A1081 y974.length c1082, .slice (some ⟨b1032, 0, none⟩) ((List.replicate a0.N.toNat (default : Int)).length) a0.N.toNat, .slice (some ⟨b1078, 0, none⟩) ((List.replicate a0.N.toNat (default : Int)).length) a0.N.toNat, .slice (some ⟨b1068, 0, none⟩) ((List.replicate a0.N.toNat (default : Int)).length) a0.N.toNat, .slice none 0 0, .int .i64 0, .int .i64 0] (by first | rfl | simp only [List.length_set, List.length_replicate, List.length_nil]) rfl
            exact hJ238 y974 _ _ ⟨_, b1084, A1081, c1082, (some ⟨b1032, 0, none⟩), a0.N.toNat, (some ⟨b1078, 0, none⟩), a0.N.toNat, (some ⟨b1068, 0, none⟩), a0.N.toNat, at_slots _ (by kernel_rfl), hI.pick [0, 5, 4, 1, 3, 2] (by decide) rfl⟩ H
      · refine (e_make (tInt .i64) (default : Int) 43 3 _ _ _ (.int .i64 0) a0.N rfl rfl rfl rfl rfl rfl (fun _ => rfl) (by kernel_rfl) (by kernel_rfl) g978 hI ?_)
        clear hI
        intro b1085 _ hI
        refine ⟨(hI.pick [0] (by decide) rfl), ?_⟩
        refine held_each (n := 5) [2, 5, 11] (by simp) (by kernel_rfl) ⟨⟨_, rfl, by kernel_rfl, ?_⟩, ⟨_, rfl, by kernel_rfl, ?_⟩, ⟨_, rfl, by kernel_rfl, ?_⟩, trivial⟩
        · refine (e_callf _ _ _ 32 #[] #[] #[.agg #[.int .i64 a0.N, .slice A0z0 a0.Edges.length c0z0], .int .i64 a1] #[.agg #[.int .i64 a0.N, .slice A0z0 a0.Edges.length c0z0], .int .i64 a1] rfl (by kernel_rfl) (by kernel_rfl) (by kernel_rfl) (enter32 _) (graph_rows_calls a0 A0z0 c0z0 a1 (memOf _) _ (Inv.start _) (hI.rd hr0z0) hl0z0 _ hy975) ?_)
          rintro _ _ ⟨A1090, c1091, rfl, hI'⟩
          replace hI := hI.call0 hI'
          clear hI'
          refine ⟨_, rfl, ?_⟩
          refine ⟨(hI.pick [0] (by decide) rfl), ?_⟩
          refine held_each (n := 4) [5, 11] (by simp) (by kernel_rfl) ⟨⟨_, rfl, by kernel_rfl, ?_⟩, ⟨_, rfl, by kernel_rfl, ?_⟩, trivial⟩
          · refine (e_make (tInt .i64) (default : Int) 43 3 _ _ _ (.int .i64 0) a0.N rfl rfl rfl rfl rfl rfl (fun _ => rfl) (by kernel_rfl) (by kernel_rfl) g978 hI ?_)
            clear hI
            intro b1094 _ hI
            refine ⟨(hI.pick [0] (by decide) rfl), ?_⟩
            refine held_one (n := 3) 11 _ rfl (by kernel_rfl) (by kernel_rfl) (e_make (tInt .i64) (default : Int) 43 3 _ _ _ (.int .i64 0) a0.N rfl rfl rfl rfl rfl rfl (fun _ => rfl) (by kernel_rfl) (by kernel_rfl) g978 hI ?_)
            clear hI
            intro b1096 _ hI
            refine ⟨(hI.pick [0] (by decide) rfl), ?_⟩
            refine held_batch (n := 2) [] [(12, .p)] [(26, .agg #[.slice A1090 y974.length c1091, .slice (some ⟨b1094, 0, none⟩) a0.N.toNat a0.N.toNat, .slice (some ⟨b1085, 0, none⟩) a0.N.toNat a0.N.toNat, .slice (some ⟨b1096, 0, none⟩) a0.N.toNat a0.N.toNat, .slice none 0 0, .int .i64 0, .int .i64 0])] [] [true, true, true, true, true, true, true, true, true, true, true, true, true, false, false] (by kernel_rfl) (fun w hS => trivial) (hI.pick [0] (by decide) rfl) trivial (by kernel_rfl) (by kernel_rfl) (by kernel_rfl) ?_
            refine held_one (n := 1) 13 _ rfl (by kernel_rfl) (by kernel_rfl) (e_box 65 _ (.agg #[.slice A1090 y974.length c1091, .slice (some ⟨b1094, 0, none⟩) a0.N.toNat a0.N.toNat, .slice (some ⟨b1085, 0, none⟩) a0.N.toNat a0.N.toNat, .slice (some ⟨b1096, 0, none⟩) a0.N.toNat a0.N.toNat, .slice none 0 0, .int .i64 0, .int .i64 0]) [.slice A1090 y974.length c1091, .slice (some ⟨b1094, 0, none⟩) a0.N.toNat a0.N.toNat, .slice (some ⟨b1085, 0, none⟩) a0.N.toNat a0.N.toNat, .slice (some ⟨b1096, 0, none⟩) a0.N.toNat a0.N.toNat, .slice none 0 0, .int .i64 0, .int .i64 0] rfl (by kernel_rfl) rfl hI ?_)
            clear hI
            intro b1098 _ hI
            refine ⟨(hI.pick [0] (by decide) rfl), ?_⟩
            refine held_batch (n := 0) [] [(14, .p)] [(7, .pointer (some ⟨b1098, 0, none⟩))] [] [true, true, true, true, true, true, true, true, true, true, true, true, true, true, true] (by kernel_rfl) (fun w hS => trivial) (hI.pick [0] (by decide) rfl) trivial (by kernel_rfl) (by kernel_rfl) (by kernel_rfl) ?_
            refine held_done (by kernel_rfl) ?_
            replace hI := hI.renum 1 rfl
            replace hI := hI.renum 3 rfl
            replace hI := hI.renum 4 rfl
            replace hI := hI.recell 5 [.slice A1090 y974.length c1091, .slice (some ⟨b1094, 0, none⟩) ((List.replicate a0.N.toNat (default : Int)).length) a0.N.toNat, .slice (some ⟨b1085, 0, none⟩) ((List.replicate a0.N.toNat (default : Int)).length) a0.N.toNat, .slice (some ⟨b1096, 0, none⟩) ((List.replicate a0.N.toNat (default : Int)).length) a0.N.toNat, .slice none 0 0, .int .i64 0, .int .i64 0] (by first | rfl | simp only [List.length_set, List.length_replicate, List.length_nil]) rfl
            exact hJ238 y974 _ _ ⟨_, b1098, A1090, c1091, (some ⟨b1094, 0, none⟩), a0.N.toNat, (some ⟨b1085, 0, none⟩), a0.N.toNat, (some ⟨b1096, 0, none⟩), a0.N.toNat, at_slots _ (by kernel_rfl), hI.pick [0, 5, 2, 3, 1, 4] (by decide) rfl⟩ H
          · refine (e_make (tInt .i64) (default : Int) 43 3 _ _ _ (.int .i64 0) a0.N rfl rfl rfl rfl rfl rfl (fun _ => rfl) (by kernel_rfl) (by kernel_rfl) g978 hI ?_)
            clear hI
            intro b1099 _ hI
            refine ⟨(hI.pick [0] (by decide) rfl), ?_⟩
            refine held_one (n := 3) 5 _ rfl (by kernel_rfl) (by kernel_rfl) (e_make (tInt .i64) (default : Int) 43 3 _ _ _ (.int .i64 0) a0.N rfl rfl rfl rfl rfl rfl (fun _ => rfl) (by kernel_rfl) (by kernel_rfl) g978 hI ?_)
            clear hI
            intro b1101 _ hI
            refine ⟨(hI.pick [0] (by decide) rfl), ?_⟩
            refine held_batch (n := 2) [] [(12, .p)] [(26, .agg #[.slice A1090 y974.length c1091, .slice (some ⟨b1101, 0, none⟩) a0.N.toNat a0.N.toNat, .slice (some ⟨b1085, 0, none⟩) a0.N.toNat a0.N.toNat, .slice (some ⟨b1099, 0, none⟩) a0.N.toNat a0.N.toNat, .slice none 0 0, .int .i64 0, .int .i64 0])] [] [true, true, true, true, true, true, true, true, true, true, true, true, true, false, false] (by kernel_rfl) (fun w hS => trivial) (hI.pick [0] (by decide) rfl) trivial (by kernel_rfl) (by kernel_rfl) (by kernel_rfl) ?_
            refine held_one (n := 1) 13 _ rfl (by kernel_rfl) (by kernel_rfl) (e_box 65 _ (.agg #[.slice A1090 y974.length c1091, .slice (some ⟨b1101, 0, none⟩) a0.N.toNat a0.N.toNat, .slice (some ⟨b1085, 0, none⟩) a0.N.toNat a0.N.toNat, .slice (some ⟨b1099, 0, none⟩) a0.N.toNat a0.N.toNat, .slice none 0 0, .int .i64 0, .int .i64 0]) [.slice A1090 y974.length c1091, .slice (some ⟨b1101, 0, none⟩) a0.N.toNat a0.N.toNat, .slice (some ⟨b1085, 0, none⟩) a0.N.toNat a0.N.toNat, .slice (some ⟨b1099, 0, none⟩) a0.N.toNat a0.N.toNat, .slice none 0 0, .int .i64 0, .int .i64 0] rfl (by kernel_rfl) rfl hI ?_)
            clear hI
            intro b1103 _ hI
            refine ⟨(hI.pick [0] (by decide) rfl), ?_⟩
            refine held_batch (n := 0) [] [(14, .p)] [(7, .pointer (some ⟨b1103, 0, none⟩))] [] [true, true, true, true, true, true, true, true, true, true, true, true, true, true, true] (by kernel_rfl) (fun w hS => trivial) (hI.pick [0] (by decide) rfl) trivial (by kernel_rfl) (by kernel_rfl) (by kernel_rfl) ?_
            refine held_done (by kernel_rfl) ?_
            replace hI := hI.renum 1 rfl
            replace hI := hI.renum 3 rfl
            replace hI := hI.renum 4 rfl
            replace hI := hI.recell 5 [.slice A1090 y974.length c1091, .slice (some ⟨b1101, 0, none⟩) ((List.replicate a0.N.toNat (default : Int)).length) a0.N.toNat, .slice (some ⟨b1085, 0, none⟩) ((List.replicate a0.N.toNat (default : Int)).length) a0.N.toNat, .slice (some ⟨b1099, 0, none⟩) ((List.replicate a0.N.toNat (default : Int)).length) a0.N.toNat, .slice none 0 0, .int .i64 0, .int .i64 0] (by first | rfl | simp only [List.length_set, List.length_replicate, List.length_nil]) rfl
            exact hJ238 y974 _ _ ⟨_, b1103, A1090, c1091, (some ⟨b1101, 0, none⟩), a0.N.toNat, (some ⟨b1085, 0, none⟩), a0.N.toNat, (some ⟨b1099, 0, none⟩), a0.N.toNat, at_slots _ (by kernel_rfl), hI.pick [0, 5, 2, 4, 1, 3] (by decide) rfl⟩ H
        · refine (e_make (tInt .i64) (default : Int) 43 3 _ _ _ (.int .i64 0) a0.N rfl rfl rfl rfl rfl rfl (fun _ => rfl) (by kernel_rfl) (by kernel_rfl) g978 hI ?_)
          clear hI
          intro b1104 _ hI
          refine ⟨(hI.pick [0] (by decide) rfl), ?_⟩
          refine held_each (n := 4) [2, 11] (by simp) (by kernel_rfl) ⟨⟨_, rfl, by kernel_rfl, ?_⟩, ⟨_, rfl, by kernel_rfl, ?_⟩, trivial⟩
          · refine (e_callf _ _ _ 32 #[] #[] #[.agg #[.int .i64 a0.N, .slice A0z0 a0.Edges.length c0z0], .int .i64 a1] #[.agg #[.int .i64 a0.N, .slice A0z0 a0.Edges.length c0z0], .int .i64 a1] rfl (by kernel_rfl) (by kernel_rfl) (by kernel_rfl) (enter32 _) (graph_rows_calls a0 A0z0 c0z0 a1 (memOf _) _ (Inv.start _) (hI.rd hr0z0) hl0z0 _ hy975) ?_)
            rintro _ _ ⟨A1108, c1109, rfl, hI'⟩
            replace hI := hI.call0 hI'
            clear hI'
            refine ⟨_, rfl, ?_⟩
            refine ⟨(hI.pick [0] (by decide) rfl), ?_⟩
            refine held_one (n := 3) 11 _ rfl (by kernel_rfl) (by kernel_rfl) (e_make (tInt .i64) (default : Int) 43 3 _ _ _ (.int .i64 0) a0.N rfl rfl rfl rfl rfl rfl (fun _ => rfl) (by kernel_rfl) (by kernel_rfl) g978 hI ?_)
            clear hI
            intro b1111 _ hI
            refine ⟨(hI.pick [0] (by decide) rfl), ?_⟩
            refine held_batch (n := 2) [] [(12, .p)] [(26, .agg #[.slice A1108 y974.length c1109, .slice (some ⟨b1104, 0, none⟩) a0.N.toNat a0.N.toNat, .slice (some ⟨b1085, 0, none⟩) a0.N.toNat a0.N.toNat, .slice (some ⟨b1111, 0, none⟩) a0.N.toNat a0.N.toNat, .slice none 0 0, .int .i64 0, .int .i64 0])] [] [true, true, true, true, true, true, true, true, true, true, true, true, true, false, false] (by kernel_rfl) (fun w hS => trivial) (hI.pick [0] (by decide) rfl) trivial (by kernel_rfl) (by kernel_rfl) (by kernel_rfl) ?_
            refine held_one (n := 1) 13 _ rfl (by kernel_rfl) (by kernel_rfl) (e_box 65 _ (.agg #[.slice A1108 y974.length c1109, .slice (some ⟨b1104, 0, none⟩) a0.N.toNat a0.N.toNat, .slice (some ⟨b1085, 0, none⟩) a0.N.toNat a0.N.toNat, .slice (some ⟨b1111, 0, none⟩) a0.N.toNat a0.N.toNat, .slice none 0 0, .int .i64 0, .int .i64 0]) [.slice A1108 y974.length c1109, .slice (some ⟨b1104, 0, none⟩) a0.N.toNat a0.N.toNat, .slice (some ⟨b1085, 0, none⟩) a0.N.toNat a0.N.toNat, .slice (some ⟨b1111, 0, none⟩) a0.N.toNat a0.N.toNat, .slice none 0 0, .int .i64 0, .int .i64 0] rfl (by kernel_rfl) rfl hI ?_)
            clear hI
            intro b1113 _ hI
            refine ⟨(hI.pick [0] (by decide) rfl), ?_⟩
            refine held_batch (n := 0) [] [(14, .p)] [(7, .pointer (some ⟨b1113, 0, none⟩))] [] [true, true, true, true, true, true, true, true, true, true, true, true, true, true, true] (by kernel_rfl) (fun w hS => trivial) (hI.pick [0] (by decide) rfl) trivial (by kernel_rfl) (by kernel_rfl) (by kernel_rfl) ?_
            refine held_done (by kernel_rfl) ?_
            replace hI := hI.renum 1 rfl
            replace hI := hI.renum 2 rfl
            replace hI := hI.renum 4 rfl
            replace hI := hI.recell 5 [.slice A1108 y974.length c1109, .slice (some ⟨b1104, 0, none⟩) ((List.replicate a0.N.toNat (default : Int)).length) a0.N.toNat, .slice (some ⟨b1085, 0, none⟩) ((List.replicate a0.N.toNat (default : Int)).length) a0.N.toNat, .slice (some ⟨b1111, 0, none⟩) ((List.replicate a0.N.toNat (default : Int)).length) a0.N.toNat, .slice none 0 0, .int .i64 0, .int .i64 0] (by first | rfl | simp only [List.length_set, List.length_replicate, List.length_nil]) rfl
            exact hJ238 y974 _ _ ⟨_, b1113, A1108, c1109, (some ⟨b1104, 0, none⟩), a0.N.toNat, (some ⟨b1085, 0, none⟩), a0.N.toNat, (some ⟨b1111, 0, none⟩), a0.N.toNat, at_slots _ (by kernel_rfl), hI.pick [0, 5, 3, 2, 1, 4] (by decide) rfl⟩ H
          · refine (e_make (tInt .i64) (default : Int) 43 3 _ _ _ (.int .i64 0) a0.N rfl rfl rfl rfl rfl rfl (fun _ => rfl) (by kernel_rfl) (by kernel_rfl) g978 hI ?_)
            clear hI
            intro b1114 _ hI
            refine ⟨(hI.pick [0] (by decide) rfl), ?_⟩
            refine held_one (n := 3) 2 _ rfl (by kernel_rfl) (by kernel_rfl) (e_callf _ _ _ 32 #[] #[] #[.agg #[.int .i64 a0.N, .slice A0z0 a0.Edges.length c0z0], .int .i64 a1] #[.agg #[.int .i64 a0.N, .slice A0z0 a0.Edges.length c0z0], .int .i64 a1] rfl (by kernel_rfl) (by kernel_rfl) (by kernel_rfl) (enter32 _) (graph_rows_calls a0 A0z0 c0z0 a1 (memOf _) _ (Inv.start _) (hI.rd hr0z0) hl0z0 _ hy975) ?_)
            rintro _ _ ⟨A1117, c1118, rfl, hI'⟩
            replace hI := hI.call0 hI'
            clear hI'
            refine ⟨_, rfl, ?_⟩
            refine ⟨(hI.pick [0] (by decide) rfl), ?_⟩
            refine held_batch (n := 2) [] [(12, .p)] [(26, .agg #[.slice A1117 y974.length c1118, .slice (some ⟨b1104, 0, none⟩) a0.N.toNat a0.N.toNat, .slice (some ⟨b1085, 0, none⟩) a0.N.toNat a0.N.toNat, .slice (some ⟨b1114, 0, none⟩) a0.N.toNat a0.N.toNat, .slice none 0 0, .int .i64 0, .int .i64 0])] [] [true, true, true, true, true, true, true, true, true, true, true, true, true, false, false] (by kernel_rfl) (fun w hS => trivial) (hI.pick [0] (by decide) rfl) trivial (by kernel_rfl) (by kernel_rfl) (by kernel_rfl) ?_
            refine held_one (n := 1) 13 _ rfl (by kernel_rfl) (by kernel_rfl) (e_box 65 _ (.agg #[.slice A1117 y974.length c1118, .slice (some ⟨b1104, 0, none⟩) a0.N.toNat a0.N.toNat, .slice (some ⟨b1085, 0, none⟩) a0.N.toNat a0.N.toNat, .slice (some ⟨b1114, 0, none⟩) a0.N.toNat a0.N.toNat, .slice none 0 0, .int .i64 0, .int .i64 0]) [.slice A1117 y974.length c1118, .slice (some ⟨b1104, 0, none⟩) a0.N.toNat a0.N.toNat, .slice (some ⟨b1085, 0, none⟩) a0.N.toNat a0.N.toNat, .slice (some ⟨b1114, 0, none⟩) a0.N.toNat a0.N.toNat, .slice none 0 0, .int .i64 0, .int .i64 0] rfl (by kernel_rfl) rfl hI ?_)
            clear hI
            intro b1120 _ hI
            refine ⟨(hI.pick [0] (by decide) rfl), ?_⟩
            refine held_batch (n := 0) [] [(14, .p)] [(7, .pointer (some ⟨b1120, 0, none⟩))] [] [true, true, true, true, true, true, true, true, true, true, true, true, true, true, true] (by kernel_rfl) (fun w hS => trivial) (hI.pick [0] (by decide) rfl) trivial (by kernel_rfl) (by kernel_rfl) (by kernel_rfl) ?_
            refine held_done (by kernel_rfl) ?_
            replace hI := hI.renum 1 rfl
            replace hI := hI.renum 2 rfl
            replace hI := hI.renum 3 rfl
            replace hI := hI.recell 5 [.slice A1117 y974.length c1118, .slice (some ⟨b1104, 0, none⟩) ((List.replicate a0.N.toNat (default : Int)).length) a0.N.toNat, .slice (some ⟨b1085, 0, none⟩) ((List.replicate a0.N.toNat (default : Int)).length) a0.N.toNat, .slice (some ⟨b1114, 0, none⟩) ((List.replicate a0.N.toNat (default : Int)).length) a0.N.toNat, .slice none 0 0, .int .i64 0, .int .i64 0] (by first | rfl | simp only [List.length_set, List.length_replicate, List.length_nil]) rfl
            exact hJ238 y974 _ _ ⟨_, b1120, A1117, c1118, (some ⟨b1104, 0, none⟩), a0.N.toNat, (some ⟨b1085, 0, none⟩), a0.N.toNat, (some ⟨b1114, 0, none⟩), a0.N.toNat, at_slots _ (by kernel_rfl), hI.pick [0, 5, 4, 2, 1, 3] (by decide) rfl⟩ H
        · refine (e_make (tInt .i64) (default : Int) 43 3 _ _ _ (.int .i64 0) a0.N rfl rfl rfl rfl rfl rfl (fun _ => rfl) (by kernel_rfl) (by kernel_rfl) g978 hI ?_)
          clear hI
          intro b1121 _ hI
          refine ⟨(hI.pick [0] (by decide) rfl), ?_⟩
          refine held_each (n := 4) [2, 5] (by simp) (by kernel_rfl) ⟨⟨_, rfl, by kernel_rfl, ?_⟩, ⟨_, rfl, by kernel_rfl, ?_⟩, trivial⟩
          · refine (e_callf _ _ _ 32 #[] #[] #[.agg #[.int .i64 a0.N, .slice A0z0 a0.Edges.length c0z0], .int .i64 a1] #[.agg #[.int .i64 a0.N, .slice A0z0 a0.Edges.length c0z0], .int .i64 a1] rfl (by kernel_rfl) (by kernel_rfl) (by kernel_rfl) (enter32 _) (graph_rows_calls a0 A0z0 c0z0 a1 (memOf _) _ (Inv.start _) (hI.rd hr0z0) hl0z0 _ hy975) ?_)
            rintro _ _ ⟨A1125, c1126, rfl, hI'⟩
            replace hI := hI.call0 hI'
            clear hI'
            refine ⟨_, rfl, ?_⟩
            refine ⟨(hI.pick [0] (by decide) rfl), ?_⟩
            refine held_one (n := 3) 5 _ rfl (by kernel_rfl) (by kernel_rfl) (e_make (tInt .i64) (default : Int) 43 3 _ _ _ (.int .i64 0) a0.N rfl rfl rfl rfl rfl rfl (fun _ => rfl) (by kernel_rfl) (by kernel_rfl) g978 hI ?_)
            clear hI
            intro b1128 _ hI
            refine ⟨(hI.pick [0] (by decide) rfl), ?_⟩
            refine held_batch (n := 2) [] [(12, .p)] [(26, .agg #[.slice A1125 y974.length c1126, .slice (some ⟨b1128, 0, none⟩) a0.N.toNat a0.N.toNat, .slice (some ⟨b1085, 0, none⟩) a0.N.toNat a0.N.toNat, .slice (some ⟨b1121, 0, none⟩) a0.N.toNat a0.N.toNat, .slice none 0 0, .int .i64 0, .int .i64 0])] [] [true, true, true, true, true, true, true, true, true, true, true, true, true, false, false] (by kernel_rfl) (fun w hS => trivial) (hI.pick [0] (by decide) rfl) trivial (by kernel_rfl) (by kernel_rfl) (by kernel_rfl) ?_
            refine held_one (n := 1) 13 _ rfl (by kernel_rfl) (by kernel_rfl) (e_box 65 _ (.agg #[.slice A1125 y974.length c1126, .slice (some ⟨b1128, 0, none⟩) a0.N.toNat a0.N.toNat, .slice (some ⟨b1085, 0, none⟩) a0.N.toNat a0.N.toNat, .slice (some ⟨b1121, 0, none⟩) a0.N.toNat a0.N.toNat, .slice none 0 0, .int .i64 0, .int .i64 0]) [.slice A1125 y974.length c1126, .slice (some ⟨b1128, 0, none⟩) a0.N.toNat a0.N.toNat, .slice (some ⟨b1085, 0, none⟩) a0.N.toNat a0.N.toNat, .slice (some ⟨b1121, 0, none⟩) a0.N.toNat a0.N.toNat, .slice none 0 0, .int .i64 0, .int .i64 0] rfl (by kernel_rfl) rfl hI ?_)
            clear hI
            intro b1130 _ hI
            refine ⟨(hI.pick [0] (by decide) rfl), ?_⟩
            refine held_batch (n := 0) [] [(14, .p)] [(7, .pointer (some ⟨b1130, 0, none⟩))] [] [true, true, true, true, true, true, true, true, true, true, true, true, true, true, true] (by kernel_rfl) (fun w hS => trivial) (hI.pick [0] (by decide) rfl) trivial (by kernel_rfl) (by kernel_rfl) (by kernel_rfl) ?_
            refine held_done (by kernel_rfl) ?_
            replace hI := hI.renum 1 rfl
            replace hI := hI.renum 2 rfl
            replace hI := hI.renum 4 rfl
            replace hI := hI.recell 5 [.slice A1125 y974.length c1126, .slice (some ⟨b1128, 0, none⟩) ((List.replicate a0.N.toNat (default : Int)).length) a0.N.toNat, .slice (some ⟨b1085, 0, none⟩) ((List.replicate a0.N.toNat (default : Int)).length) a0.N.toNat, .slice (some ⟨b1121, 0, none⟩) ((List.replicate a0.N.toNat (default : Int)).length) a0.N.toNat, .slice none 0 0, .int .i64 0, .int .i64 0] (by first | rfl | simp only [List.length_set, List.length_replicate, List.length_nil]) rfl
            exact hJ238 y974 _ _ ⟨_, b1130, A1125, c1126, (some ⟨b1128, 0, none⟩), a0.N.toNat, (some ⟨b1085, 0, none⟩), a0.N.toNat, (some ⟨b1121, 0, none⟩), a0.N.toNat, at_slots _ (by kernel_rfl), hI.pick [0, 5, 3, 4, 1, 2] (by decide) rfl⟩ H
          · refine (e_make (tInt .i64) (default : Int) 43 3 _ _ _ (.int .i64 0) a0.N rfl rfl rfl rfl rfl rfl (fun _ => rfl) (by kernel_rfl) (by kernel_rfl) g978 hI ?_)
            clear hI
            intro b1131 _ hI
            refine ⟨(hI.pick [0] (by decide) rfl), ?_⟩
            refine held_one (n := 3) 2 _ rfl (by kernel_rfl) (by kernel_rfl) (e_callf _ _ _ 32 #[] #[] #[.agg #[.int .i64 a0.N, .slice A0z0 a0.Edges.length c0z0], .int .i64 a1] #[.agg #[.int .i64 a0.N, .slice A0z0 a0.Edges.length c0z0], .int .i64 a1] rfl (by kernel_rfl) (by kernel_rfl) (by kernel_rfl) (enter32 _) (graph_rows_calls a0 A0z0 c0z0 a1 (memOf _) _ (Inv.start _) (hI.rd hr0z0) hl0z0 _ hy975) ?_)
            rintro _ _ ⟨A1134, c1135, rfl, hI'⟩
            replace hI := hI.call0 hI'
            clear hI'
            refine ⟨_, rfl, ?_⟩
            refine ⟨(hI.pick [0] (by decide) rfl), ?_⟩
            refine held_batch (n := 2) [] [(12, .p)] [(26, .agg #[.slice A1134 y974.length c1135, .slice (some ⟨b1131, 0, none⟩) a0.N.toNat a0.N.toNat, .slice (some ⟨b1085, 0, none⟩) a0.N.toNat a0.N.toNat, .slice (some ⟨b1121, 0, none⟩) a0.N.toNat a0.N.toNat, .slice none 0 0, .int .i64 0, .int .i64 0])] [] [true, true, true, true, true, true, true, true, true, true, true, true, true, false, false] (by kernel_rfl) (fun w hS => trivial) (hI.pick [0] (by decide) rfl) trivial (by kernel_rfl) (by kernel_rfl) (by kernel_rfl) ?_
            refine held_one (n := 1) 13 _ rfl (by kernel_rfl) (by kernel_rfl) (e_box 65 _ (.agg #[.slice A1134 y974.length c1135, .slice (some ⟨b1131, 0, none⟩) a0.N.toNat a0.N.toNat, .slice (some ⟨b1085, 0, none⟩) a0.N.toNat a0.N.toNat, .slice (some ⟨b1121, 0, none⟩) a0.N.toNat a0.N.toNat, .slice none 0 0, .int .i64 0, .int .i64 0]) [.slice A1134 y974.length c1135, .slice (some ⟨b1131, 0, none⟩) a0.N.toNat a0.N.toNat, .slice (some ⟨b1085, 0, none⟩) a0.N.toNat a0.N.toNat, .slice (some ⟨b1121, 0, none⟩) a0.N.toNat a0.N.toNat, .slice none 0 0, .int .i64 0, .int .i64 0] rfl (by kernel_rfl) rfl hI ?_)
            clear hI
            intro b1137 _ hI
            refine ⟨(hI.pick [0] (by decide) rfl), ?_⟩
            refine held_batch (n := 0) [] [(14, .p)] [(7, .pointer (some ⟨b1137, 0, none⟩))] [] [true, true, true, true, true, true, true, true, true, true, true, true, true, true, true] (by kernel_rfl) (fun w hS => trivial) (hI.pick [0] (by decide) rfl) trivial (by kernel_rfl) (by kernel_rfl) (by kernel_rfl) ?_
            refine held_done (by kernel_rfl) ?_
            replace hI := hI.renum 1 rfl
            replace hI := hI.renum 2 rfl
            replace hI := hI.renum 3 rfl
            replace hI := hI.recell 5 [.slice A1134 y974.length c1135, .slice (some ⟨b1131, 0, none⟩) ((List.replicate a0.N.toNat (default : Int)).length) a0.N.toNat, .slice (some ⟨b1085, 0, none⟩) ((List.replicate a0.N.toNat (default : Int)).length) a0.N.toNat, .slice (some ⟨b1121, 0, none⟩) ((List.replicate a0.N.toNat (default : Int)).length) a0.N.toNat, .slice none 0 0, .int .i64 0, .int .i64 0] (by first | rfl | simp only [List.length_set, List.length_replicate, List.length_nil]) rfl
            exact hJ238 y974 _ _ ⟨_, b1137, A1134, c1135, (some ⟨b1131, 0, none⟩), a0.N.toNat, (some ⟨b1085, 0, none⟩), a0.N.toNat, (some ⟨b1121, 0, none⟩), a0.N.toNat, at_slots _ (by kernel_rfl), hI.pick [0, 5, 4, 3, 1, 2] (by decide) rfl⟩ H
      · refine (e_make (tInt .i64) (default : Int) 43 3 _ _ _ (.int .i64 0) a0.N rfl rfl rfl rfl rfl rfl (fun _ => rfl) (by kernel_rfl) (by kernel_rfl) g978 hI ?_)
        clear hI
        intro b1138 _ hI
        refine ⟨(hI.pick [0] (by decide) rfl), ?_⟩
        refine held_each (n := 5) [2, 5, 8] (by simp) (by kernel_rfl) ⟨⟨_, rfl, by kernel_rfl, ?_⟩, ⟨_, rfl, by kernel_rfl, ?_⟩, ⟨_, rfl, by kernel_rfl, ?_⟩, trivial⟩
        · refine (e_callf _ _ _ 32 #[] #[] #[.agg #[.int .i64 a0.N, .slice A0z0 a0.Edges.length c0z0], .int .i64 a1] #[.agg #[.int .i64 a0.N, .slice A0z0 a0.Edges.length c0z0], .int .i64 a1] rfl (by kernel_rfl) (by kernel_rfl) (by kernel_rfl) (enter32 _) (graph_rows_calls a0 A0z0 c0z0 a1 (memOf _) _ (Inv.start _) (hI.rd hr0z0) hl0z0 _ hy975) ?_)
          rintro _ _ ⟨A1143, c1144, rfl, hI'⟩
          replace hI := hI.call0 hI'
          clear hI'
          refine ⟨_, rfl, ?_⟩
          refine ⟨(hI.pick [0] (by decide) rfl), ?_⟩
          refine held_each (n := 4) [5, 8] (by simp) (by kernel_rfl) ⟨⟨_, rfl, by kernel_rfl, ?_⟩, ⟨_, rfl, by kernel_rfl, ?_⟩, trivial⟩
          · refine (e_make (tInt .i64) (default : Int) 43 3 _ _ _ (.int .i64 0) a0.N rfl rfl rfl rfl rfl rfl (fun _ => rfl) (by kernel_rfl) (by kernel_rfl) g978 hI ?_)
            clear hI
            intro b1147 _ hI
            refine ⟨(hI.pick [0] (by decide) rfl), ?_⟩
            refine held_one (n := 3) 8 _ rfl (by kernel_rfl) (by kernel_rfl) (e_make (tInt .i64) (default : Int) 43 3 _ _ _ (.int .i64 0) a0.N rfl rfl rfl rfl rfl rfl (fun _ => rfl) (by kernel_rfl) (by kernel_rfl) g978 hI ?_)
            clear hI
            intro b1149 _ hI
            refine ⟨(hI.pick [0] (by decide) rfl), ?_⟩
            refine held_batch (n := 2) [] [(12, .p)] [(26, .agg #[.slice A1143 y974.length c1144, .slice (some ⟨b1147, 0, none⟩) a0.N.toNat a0.N.toNat, .slice (some ⟨b1149, 0, none⟩) a0.N.toNat a0.N.toNat, .slice (some ⟨b1138, 0, none⟩) a0.N.toNat a0.N.toNat, .slice none 0 0, .int .i64 0, .int .i64 0])] [] [true, true, true, true, true, true, true, true, true, true, true, true, true, false, false] (by kernel_rfl) (fun w hS => trivial) (hI.pick [0] (by decide) rfl) trivial (by kernel_rfl) (by kernel_rfl) (by kernel_rfl) ?_
            refine held_one (n := 1) 13 _ rfl (by kernel_rfl) (by kernel_rfl) (e_box 65 _ (.agg #[.slice A1143 y974.length c1144, .slice (some ⟨b1147, 0, none⟩) a0.N.toNat a0.N.toNat, .slice (some ⟨b1149, 0, none⟩) a0.N.toNat a0.N.toNat, .slice (some ⟨b1138, 0, none⟩) a0.N.toNat a0.N.toNat, .slice none 0 0, .int .i64 0, .int .i64 0]) [.slice A1143 y974.length c1144, .slice (some ⟨b1147, 0, none⟩) a0.N.toNat a0.N.toNat, .slice (some ⟨b1149, 0, none⟩) a0.N.toNat a0.N.toNat, .slice (some ⟨b1138, 0, none⟩) a0.N.toNat a0.N.toNat, .slice none 0 0, .int .i64 0, .int .i64 0] rfl (by kernel_rfl) rfl hI ?_)
            clear hI
            intro b1151 _ hI
            refine ⟨(hI.pick [0] (by decide) rfl), ?_⟩
            refine held_batch (n := 0) [] [(14, .p)] [(7, .pointer (some ⟨b1151, 0, none⟩))] [] [true, true, true, true, true, true, true, true, true, true, true, true, true, true, true] (by kernel_rfl) (fun w hS => trivial) (hI.pick [0] (by decide) rfl) trivial (by kernel_rfl) (by kernel_rfl) (by kernel_rfl) ?_
            refine held_done (by kernel_rfl) ?_
            replace hI := hI.renum 1 rfl
            replace hI := hI.renum 3 rfl
            replace hI := hI.renum 4 rfl
            replace hI := hI.recell 5 [.slice A1143 y974.length c1144, .slice (some ⟨b1147, 0, none⟩) ((List.replicate a0.N.toNat (default : Int)).length) a0.N.toNat, .slice (some ⟨b1149, 0, none⟩) ((List.replicate a0.N.toNat (default : Int)).length) a0.N.toNat, .slice (some ⟨b1138, 0, none⟩) ((List.replicate a0.N.toNat (default : Int)).length) a0.N.toNat, .slice none 0 0, .int .i64 0, .int .i64 0] (by first | rfl | simp only [List.length_set, List.length_replicate, List.length_nil]) rfl
            exact hJ238 y974 _ _ ⟨_, b1151, A1143, c1144, (some ⟨b1147, 0, none⟩), a0.N.toNat, (some ⟨b1149, 0, none⟩), a0.N.toNat, (some ⟨b1138, 0, none⟩), a0.N.toNat, at_slots _ (by kernel_rfl), hI.pick [0, 5, 2, 3, 4, 1] (by decide) rfl⟩ H
          · refine (e_make (tInt .i64) (default : Int) 43 3 _ _ _ (.int .i64 0) a0.N rfl rfl rfl rfl rfl rfl (fun _ => rfl) (by kernel_rfl) (by kernel_rfl) g978 hI ?_)
            clear hI
            intro b1152 _ hI
            refine ⟨(hI.pick [0] (by decide) rfl), ?_⟩
            refine held_one (n := 3) 5 _ rfl (by kernel_rfl) (by kernel_rfl) (e_make (tInt .i64) (default : Int) 43 3 _ _ _ (.int .i64 0) a0.N rfl rfl rfl rfl rfl rfl (fun _ => rfl) (by kernel_rfl) (by kernel_rfl) g978 hI ?_)
            clear hI
            intro b1154 _ hI
            refine ⟨(hI.pick [0] (by decide) rfl), ?_⟩
            refine held_batch (n := 2) [] [(12, .p)] [(26, .agg #[.slice A1143 y974.length c1144, .slice (some ⟨b1154, 0, none⟩) a0.N.toNat a0.N.toNat, .slice (some ⟨b1152, 0, none⟩) a0.N.toNat a0.N.toNat, .slice (some ⟨b1138, 0, none⟩) a0.N.toNat a0.N.toNat, .slice none 0 0, .int .i64 0, .int .i64 0])] [] [true, true, true, true, true, true, true, true, true, true, true, true, true, false, false] (by kernel_rfl) (fun w hS => trivial) (hI.pick [0] (by decide) rfl) trivial (by kernel_rfl) (by kernel_rfl) (by kernel_rfl) ?_
            refine held_one (n := 1) 13 _ rfl (by kernel_rfl) (by kernel_rfl) (e_box 65 _ (.agg #[.slice A1143 y974.length c1144, .slice (some ⟨b1154, 0, none⟩) a0.N.toNat a0.N.toNat, .slice (some ⟨b1152, 0, none⟩) a0.N.toNat a0.N.toNat, .slice (some ⟨b1138, 0, none⟩) a0.N.toNat a0.N.toNat, .slice none 0 0, .int .i64 0, .int .i64 0]) [.slice A1143 y974.length c1144, .slice (some ⟨b1154, 0, none⟩) a0.N.toNat a0.N.toNat, .slice (some ⟨b1152, 0, none⟩) a0.N.toNat a0.N.toNat, .slice (some ⟨b1138, 0, none⟩) a0.N.toNat a0.N.toNat, .slice none 0 0, .int .i64 0, .int .i64 0] rfl (by kernel_rfl) rfl hI ?_)
            clear hI
            intro b1156 _ hI
            refine ⟨(hI.pick [0] (by decide) rfl), ?_⟩
            refine held_batch (n := 0) [] [(14, .p)] [(7, .pointer (some ⟨b1156, 0, none⟩))] [] [true, true, true, true, true, true, true, true, true, true, true, true, true, true, true] (by kernel_rfl) (fun w hS => trivial) (hI.pick [0] (by decide) rfl) trivial (by kernel_rfl) (by kernel_rfl) (by kernel_rfl) ?_
            refine held_done (by kernel_rfl) ?_
            replace hI := hI.renum 1 rfl
            replace hI := hI.renum 3 rfl
            replace hI := hI.renum 4 rfl
            replace hI := hI.recell 5 [.slice A1143 y974.length c1144, .slice (some ⟨b1154, 0, none⟩) ((List.replicate a0.N.toNat (default : Int)).length) a0.N.toNat, .slice (some ⟨b1152, 0, none⟩) ((List.replicate a0.N.toNat (default : Int)).length) a0.N.toNat, .slice (some ⟨b1138, 0, none⟩) ((List.replicate a0.N.toNat (default : Int)).length) a0.N.toNat, .slice none 0 0, .int .i64 0, .int .i64 0] (by first | rfl | simp only [List.length_set, List.length_replicate, List.length_nil]) rfl
            exact hJ238 y974 _ _ ⟨_, b1156, A1143, c1144, (some ⟨b1154, 0, none⟩), a0.N.toNat, (some ⟨b1152, 0, none⟩), a0.N.toNat, (some ⟨b1138, 0, none⟩), a0.N.toNat, at_slots _ (by kernel_rfl), hI.pick [0, 5, 2, 4, 3, 1] (by decide) rfl⟩ H
        · refine (e_make (tInt .i64) (default : Int) 43 3 _ _ _ (.int .i64 0) a0.N rfl rfl rfl rfl rfl rfl (fun _ => rfl) (by kernel_rfl) (by kernel_rfl) g978 hI ?_)
          clear hI
          intro b1157 _ hI
          refine ⟨(hI.pick [0] (by decide) rfl), ?_⟩
          refine held_each (n := 4) [2, 8] (by simp) (by kernel_rfl) ⟨⟨_, rfl, by kernel_rfl, ?_⟩, ⟨_, rfl, by kernel_rfl, ?_⟩, trivial⟩
          · refine (e_callf _ _ _ 32 #[] #[] #[.agg #[.int .i64 a0.N, .slice A0z0 a0.Edges.length c0z0], .int .i64 a1] #[.agg #[.int .i64 a0.N, .slice A0z0 a0.Edges.length c0z0], .int .i64 a1] rfl (by kernel_rfl) (by kernel_rfl) (by kernel_rfl) (enter32 _) (graph_rows_calls a0 A0z0 c0z0 a1 (memOf _) _ (Inv.start _) (hI.rd hr0z0) hl0z0 _ hy975) ?_)
            rintro _ _ ⟨A1161, c1162, rfl, hI'⟩
            replace hI := hI.call0 hI'
            clear hI'
            refine ⟨_, rfl, ?_⟩
            refine ⟨(hI.pick [0] (by decide) rfl), ?_⟩
            refine held_one (n := 3) 8 _ rfl (by kernel_rfl) (by kernel_rfl) (e_make (tInt .i64) (default : Int) 43 3 _ _ _ (.int .i64 0) a0.N rfl rfl rfl rfl rfl rfl (fun _ => rfl) (by kernel_rfl) (by kernel_rfl) g978 hI ?_)
            clear hI
            intro b1164 _ hI
            refine ⟨(hI.pick [0] (by decide) rfl), ?_⟩
            refine held_batch (n := 2) [] [(12, .p)] [(26, .agg #[.slice A1161 y974.length c1162, .slice (some ⟨b1157, 0, none⟩) a0.N.toNat a0.N.toNat, .slice (some ⟨b1164, 0, none⟩) a0.N.toNat a0.N.toNat, .slice (some ⟨b1138, 0, none⟩) a0.N.toNat a0.N.toNat, .slice none 0 0, .int .i64 0, .int .i64 0])] [] [true, true, true, true, true, true, true, true, true, true, true, true, true, false, false] (by kernel_rfl) (fun w hS => trivial) (hI.pick [0] (by decide) rfl) trivial (by kernel_rfl) (by kernel_rfl) (by kernel_rfl) ?_
            refine held_one (n := 1) 13 _ rfl (by kernel_rfl) (by kernel_rfl) (e_box 65 _ (.agg #[.slice A1161 y974.length c1162, .slice (some ⟨b1157, 0, none⟩) a0.N.toNat a0.N.toNat, .slice (some ⟨b1164, 0, none⟩) a0.N.toNat a0.N.toNat, .slice (some ⟨b1138, 0, none⟩) a0.N.toNat a0.N.toNat, .slice none 0 0, .int .i64 0, .int .i64 0]) [.slice A1161 y974.length c1162, .slice (some ⟨b1157, 0, none⟩) a0.N.toNat a0.N.toNat, .slice (some ⟨b1164, 0, none⟩) a0.N.toNat a0.N.toNat, .slice (some ⟨b1138, 0, none⟩) a0.N.toNat a0.N.toNat, .slice none 0 0, .int .i64 0, .int .i64 0] rfl (by kernel_rfl) rfl hI ?_)
            clear hI
            intro b1166 _ hI
            refine ⟨(hI.pick [0] (by decide) rfl), ?_⟩
            refine held_batch (n := 0) [] [(14, .p)] [(7, .pointer (some ⟨b1166, 0, none⟩))] [] [true, true, true, true, true, true, true, true, true, true, true, true, true, true, true] (by kernel_rfl) (fun w hS => trivial) (hI.pick [0] (by decide) rfl) trivial (by kernel_rfl) (by kernel_rfl) (by kernel_rfl) ?_
            refine held_done (by kernel_rfl) ?_
            replace hI := hI.renum 1 rfl
            replace hI := hI.renum 2 rfl
            replace hI := hI.renum 4 rfl
            replace hI := hI.recell 5 [.slice A1161 y974.length c1162, .slice (some ⟨b1157, 0, none⟩) ((List.replicate a0.N.toNat (default : Int)).length) a0.N.toNat, .slice (some ⟨b1164, 0, none⟩) ((List.replicate a0.N.toNat (default : Int)).length) a0.N.toNat, .slice (some ⟨b1138, 0, none⟩) ((List.replicate a0.N.toNat (default : Int)).length) a0.N.toNat, .slice none 0 0, .int .i64 0, .int .i64 0] (by first | rfl | simp only [List.length_set, List.length_replicate, List.length_nil]) rfl
            exact hJ238 y974 _ _ ⟨_, b1166, A1161, c1162, (some ⟨b1157, 0, none⟩), a0.N.toNat, (some ⟨b1164, 0, none⟩), a0.N.toNat, (some ⟨b1138, 0, none⟩), a0.N.toNat, at_slots _ (by kernel_rfl), hI.pick [0, 5, 3, 2, 4, 1] (by decide) rfl⟩ H
          · refine (e_make (tInt .i64) (default : Int) 43 3 _ _ _ (.int .i64 0) a0.N rfl rfl rfl rfl rfl rfl (fun _ => rfl) (by kernel_rfl) (by kernel_rfl) g978 hI ?_)
            clear hI
            intro b1167 _ hI
            refine ⟨(hI.pick [0] (by decide) rfl), ?_⟩
            refine held_one (n := 3) 2 _ rfl (by kernel_rfl) (by kernel_rfl) (e_callf _ _ _ 32 #[] #[] #[.agg #[.int .i64 a0.N, .slice A0z0 a0.Edges.length c0z0], .int .i64 a1] #[.agg #[.int .i64 a0.N, .slice A0z0 a0.Edges.length c0z0], .int .i64 a1] rfl (by kernel_rfl) (by kernel_rfl) (by kernel_rfl) (enter32 _) (graph_rows_calls a0 A0z0 c0z0 a1 (memOf _) _ (Inv.start _) (hI.rd hr0z0) hl0z0 _ hy975) ?_)
            rintro _ _ ⟨A1170, c1171, rfl, hI'⟩
            replace hI := hI.call0 hI'
            clear hI'
            refine ⟨_, rfl, ?_⟩
            refine ⟨(hI.pick [0] (by decide) rfl), ?_⟩
            refine held_batch (n := 2) [] [(12, .p)] [(26, .agg #[.slice A1170 y974.length c1171, .slice (some ⟨b1157, 0, none⟩) a0.N.toNat a0.N.toNat, .slice (some ⟨b1167, 0, none⟩) a0.N.toNat a0.N.toNat, .slice (some ⟨b1138, 0, none⟩) a0.N.toNat a0.N.toNat, .slice none 0 0, .int .i64 0, .int .i64 0])] [] [true, true, true, true, true, true, true, true, true, true, true, true, true, false, false] (by kernel_rfl) (fun w hS => trivial) (hI.pick [0] (by decide) rfl) trivial (by kernel_rfl) (by kernel_rfl) (by kernel_rfl) ?_
            refine held_one (n := 1) 13 _ rfl (by kernel_rfl) (by kernel_rfl) (e_box 65 _ (.agg #[.slice A1170 y974.length c1171, .slice (some ⟨b1157, 0, none⟩) a0.N.toNat a0.N.toNat, .slice (some ⟨b1167, 0, none⟩) a0.N.toNat a0.N.toNat, .slice (some ⟨b1138, 0, none⟩) a0.N.toNat a0.N.toNat, .slice none 0 0, .int .i64 0, .int .i64 0]) [.slice A1170 y974.length c1171, .slice (some ⟨b1157, 0, none⟩) a0.N.toNat a0.N.toNat, .slice (some ⟨b1167, 0, none⟩) a0.N.toNat a0.N.toNat, .slice (some ⟨b1138, 0, none⟩) a0.N.toNat a0.N.toNat, .slice none 0 0, .int .i64 0, .int .i64 0] rfl (by kernel_rfl) rfl hI ?_)
            clear hI
            intro b1173 _ hI
            refine ⟨(hI.pick [0] (by decide) rfl), ?_⟩
            refine held_batch (n := 0) [] [(14, .p)] [(7, .pointer (some ⟨b1173, 0, none⟩))] [] [true, true, true, true, true, true, true, true, true, true, true, true, true, true, true] (by kernel_rfl) (fun w hS => trivial) (hI.pick [0] (by decide) rfl) trivial (by kernel_rfl) (by kernel_rfl) (by kernel_rfl) ?_
            refine held_done (by kernel_rfl) ?_
            replace hI := hI.renum 1 rfl
            replace hI := hI.renum 2 rfl
            replace hI := hI.renum 3 rfl
            replace hI := hI.recell 5 [.slice A1170 y974.length c1171, .slice (some ⟨b1157, 0, none⟩) ((List.replicate a0.N.toNat (default : Int)).length) a0.N.toNat, .slice (some ⟨b1167, 0, none⟩) ((List.replicate a0.N.toNat (default : Int)).length) a0.N.toNat, .slice (some ⟨b1138, 0, none⟩) ((List.replicate a0.N.toNat (default : Int)).length) a0.N.toNat, .slice none 0 0, .int .i64 0, .int .i64 0] (by first | rfl | simp only [List.length_set, List.length_replicate, List.length_nil]) rfl
            exact hJ238 y974 _ _ ⟨_, b1173, A1170, c1171, (some ⟨b1157, 0, none⟩), a0.N.toNat, (some ⟨b1167, 0, none⟩), a0.N.toNat, (some ⟨b1138, 0, none⟩), a0.N.toNat, at_slots _ (by kernel_rfl), hI.pick [0, 5, 4, 2, 3, 1] (by decide) rfl⟩ H
        · refine (e_make (tInt .i64) (default : Int) 43 3 _ _ _ (.int .i64 0) a0.N rfl rfl rfl rfl rfl rfl (fun _ => rfl) (by kernel_rfl) (by kernel_rfl) g978 hI ?_)
          clear hI
          intro b1174 _ hI
          refine ⟨(hI.pick [0] (by decide) rfl), ?_⟩
          refine held_each (n := 4) [2, 5] (by simp) (by kernel_rfl) ⟨⟨_, rfl, by kernel_rfl, ?_⟩, ⟨_, rfl, by kernel_rfl, ?_⟩, trivial⟩
          · refine (e_callf _ _ _ 32 #[] #[] #[.agg #[.int .i64 a0.N, .slice A0z0 a0.Edges.length c0z0], .int .i64 a1] #[.agg #[.int .i64 a0.N, .slice A0z0 a0.Edges.length c0z0], .int .i64 a1] rfl (by kernel_rfl) (by kernel_rfl) (by kernel_rfl) (enter32 _) (graph_rows_calls a0 A0z0 c0z0 a1 (memOf _) _ (Inv.start _) (hI.rd hr0z0) hl0z0 _ hy975) ?_)
            rintro _ _ ⟨A1178, c1179, rfl, hI'⟩
            replace hI := hI.call0 hI'
            clear hI'
            refine ⟨_, rfl, ?_⟩
            refine ⟨(hI.pick [0] (by decide) rfl), ?_⟩
            refine held_one (n := 3) 5 _ rfl (by kernel_rfl) (by kernel_rfl) (e_make (tInt .i64) (default : Int) 43 3 _ _ _ (.int .i64 0) a0.N rfl rfl rfl rfl rfl rfl (fun _ => rfl) (by kernel_rfl) (by kernel_rfl) g978 hI ?_)
            clear hI
            intro b1181 _ hI
            refine ⟨(hI.pick [0] (by decide) rfl), ?_⟩
            refine held_batch (n := 2) [] [(12, .p)] [(26, .agg #[.slice A1178 y974.length c1179, .slice (some ⟨b1181, 0, none⟩) a0.N.toNat a0.N.toNat, .slice (some ⟨b1174, 0, none⟩) a0.N.toNat a0.N.toNat, .slice (some ⟨b1138, 0, none⟩) a0.N.toNat a0.N.toNat, .slice none 0 0, .int .i64 0, .int .i64 0])] [] [true, true, true, true, true, true, true, true, true, true, true, true, true, false, false] (by kernel_rfl) (fun w hS => trivial) (hI.pick [0] (by decide) rfl) trivial (by kernel_rfl) (by kernel_rfl) (by kernel_rfl) ?_
            refine held_one (n := 1) 13 _ rfl (by kernel_rfl) (by kernel_rfl) (e_box 65 _ (.agg #[.slice A1178 y974.length c1179, .slice (some ⟨b1181, 0, none⟩) a0.N.toNat a0.N.toNat, .slice (some ⟨b1174, 0, none⟩) a0.N.toNat a0.N.toNat, .slice (some ⟨b1138, 0, none⟩) a0.N.toNat a0.N.toNat, .slice none 0 0, .int .i64 0, .int .i64 0]) [.slice A1178 y974.length c1179, .slice (some ⟨b1181, 0, none⟩) a0.N.toNat a0.N.toNat, .slice (some ⟨b1174, 0, none⟩) a0.N.toNat a0.N.toNat, .slice (some ⟨b1138, 0, none⟩) a0.N.toNat a0.N.toNat, .slice none 0 0, .int .i64 0, .int .i64 0] rfl (by kernel_rfl) rfl hI ?_)
            clear hI
            intro b1183 _ hI
            refine ⟨(hI.pick [0] (by decide) rfl), ?_⟩
            refine held_batch (n := 0) [] [(14, .p)] [(7, .pointer (some ⟨b1183, 0, none⟩))] [] [true, true, true, true, true, true, true, true, true, true, true, true, true, true, true] (by kernel_rfl) (fun w hS => trivial) (hI.pick [0] (by decide) rfl) trivial (by kernel_rfl) (by kernel_rfl) (by kernel_rfl) ?_
            refine held_done (by kernel_rfl) ?_
            replace hI := hI.renum 1 rfl
            replace hI := hI.renum 2 rfl
            replace hI := hI.renum 4 rfl
            replace hI := hI.recell 5 [.slice A1178 y974.length c1179, .slice (some ⟨b1181, 0, none⟩) ((List.replicate a0.N.toNat (default : Int)).length) a0.N.toNat, .slice (some ⟨b1174, 0, none⟩) ((List.replicate a0.N.toNat (default : Int)).length) a0.N.toNat, .slice (some ⟨b1138, 0, none⟩) ((List.replicate a0.N.toNat (default : Int)).length) a0.N.toNat, .slice none 0 0, .int .i64 0, .int .i64 0] (by first | rfl | simp only [List.length_set, List.length_replicate, List.length_nil]) rfl
            exact hJ238 y974 _ _ ⟨_, b1183, A1178, c1179, (some ⟨b1181, 0, none⟩), a0.N.toNat, (some ⟨b1174, 0, none⟩), a0.N.toNat, (some ⟨b1138, 0, none⟩), a0.N.toNat, at_slots _ (by kernel_rfl), hI.pick [0, 5, 3, 4, 2, 1] (by decide) rfl⟩ H
          · refine (e_make (tInt .i64) (default : Int) 43 3 _ _ _ (.int .i64 0) a0.N rfl rfl rfl rfl rfl rfl (fun _ => rfl) (by kernel_rfl) (by kernel_rfl) g978 hI ?_)
            clear hI
            intro b1184 _ hI
            refine ⟨(hI.pick [0] (by decide) rfl), ?_⟩
            refine held_one (n := 3) 2 _ rfl (by kernel_rfl) (by kernel_rfl) (e_callf _ _ _ 32 #[] #[] #[.agg #[.int .i64 a0.N, .slice A0z0 a0.Edges.length c0z0], .int .i64 a1] #[.agg #[.int .i64 a0.N, .slice A0z0 a0.Edges.length c0z0], .int .i64 a1] rfl (by kernel_rfl) (by kernel_rfl) (by kernel_rfl) (enter32 _) (graph_rows_calls a0 A0z0 c0z0 a1 (memOf _) _ (Inv.start _) (hI.rd hr0z0) hl0z0 _ hy975) ?_)
            rintro _ _ ⟨A1187, c1188, rfl, hI'⟩
            replace hI := hI.call0 hI'
            clear hI'
            refine ⟨_, rfl, ?_⟩
            refine ⟨(hI.pick [0] (by decide) rfl), ?_⟩
            refine held_batch (n := 2) [] [(12, .p)] [(26, .agg #[.slice A1187 y974.length c1188, .slice (some ⟨b1184, 0, none⟩) a0.N.toNat a0.N.toNat, .slice (some ⟨b1174, 0, none⟩) a0.N.toNat a0.N.toNat, .slice (some ⟨b1138, 0, none⟩) a0.N.toNat a0.N.toNat, .slice none 0 0, .int .i64 0, .int .i64 0])] [] [true, true, true, true, true, true, true, true, true, true, true, true, true, false, false] (by kernel_rfl) (fun w hS => trivial) (hI.pick [0] (by decide) rfl) trivial (by kernel_rfl) (by kernel_rfl) (by kernel_rfl) ?_
            refine held_one (n := 1) 13 _ rfl (by kernel_rfl) (by kernel_rfl) (e_box 65 _ (.agg #[.slice A1187 y974.length c1188, .slice (some ⟨b1184, 0, none⟩) a0.N.toNat a0.N.toNat, .slice (some ⟨b1174, 0, none⟩) a0.N.toNat a0.N.toNat, .slice (some ⟨b1138, 0, none⟩) a0.N.toNat a0.N.toNat, .slice none 0 0, .int .i64 0, .int .i64 0]) [.slice A1187 y974.length c1188, .slice (some ⟨b1184, 0, none⟩) a0.N.toNat a0.N.toNat, .slice (some ⟨b1174, 0, none⟩) a0.N.toNat a0.N.toNat, .slice (some ⟨b1138, 0, none⟩) a0.N.toNat a0.N.toNat, .slice none 0 0, .int .i64 0, .int .i64 0] rfl (by kernel_rfl) rfl hI ?_)
            clear hI
            intro b1190 _ hI
            refine ⟨(hI.pick [0] (by decide) rfl), ?_⟩
            refine held_batch (n := 0) [] [(14, .p)] [(7, .pointer (some ⟨b1190, 0, none⟩))] [] [true, true, true, true, true, true, true, true, true, true, true, true, true, true, true] (by kernel_rfl) (fun w hS => trivial) (hI.pick [0] (by decide) rfl) trivial (by kernel_rfl) (by kernel_rfl) (by kernel_rfl) ?_
            refine held_done (by kernel_rfl) ?_
            replace hI := hI.renum 1 rfl
            replace hI := hI.renum 2 rfl
            replace hI := hI.renum 3 rfl
            replace hI := hI.recell 5 [.slice A1187 y974.length c1188, .slice (some ⟨b1184, 0, none⟩) ((List.replicate a0.N.toNat (default : Int)).length) a0.N.toNat, .slice (some ⟨b1174, 0, none⟩) ((List.replicate a0.N.toNat (default : Int)).length) a0.N.toNat, .slice (some ⟨b1138, 0, none⟩) ((List.replicate a0.N.toNat (default : Int)).length) a0.N.toNat, .slice none 0 0, .int .i64 0, .int .i64 0] (by first | rfl | simp only [List.length_set, List.length_replicate, List.length_nil]) rfl
            exact hJ238 y974 _ _ ⟨_, b1190, A1187, c1188, (some ⟨b1184, 0, none⟩), a0.N.toNat, (some ⟨b1174, 0, none⟩), a0.N.toNat, (some ⟨b1138, 0, none⟩), a0.N.toNat, at_slots _ (by kernel_rfl), hI.pick [0, 5, 4, 3, 2, 1] (by decide) rfl⟩ H

/-! ### assizeref05.SameInts -/
theorem enter25 (a : Array Value) : Sem.pureRun Tryd.prog (callFunc 25 a) = some (.enter 25 a) := by kernel_rfl
theorem assizeref05zSameInts_calls (A0z : Option Addr) (c0z : Nat) (a0 : List Int) (A1z : Option Addr) (c1z : Nat) (a1 : List Int) (M : Mem) (w : World) (hI : Inv M w []) (hr0z : rdS (tInt .i64) M.blk A0z a0) (hl0z : a0.length ≤ c0z) (hr1z : rdS (tInt .i64) M.blk A1z a1) (hl1z : a1.length ≤ c1z) (r : Bool) (H : assizeref05zSameInts a0 a1 = some r) :
    Calls Tryd.prog 25 #[.slice A0z a0.length c0z, .slice A1z a1.length c1z] w fun e w' => e = .returned (.bool r) ∧ Inv M w' [] := by
  refine calls_go (updL (fun _ => undef) [(0, .slice A0z a0.length c0z), (1, .slice A1z a1.length c1z)]) Tryd.func25 rfl (by kernel_rfl) ?_
  intro cs
  unfold assizeref05zSameInts at H
  refine go_seq ?_
  refine r_in ?_
  refine o_batch 0 [] [.p] [(4, .bool false)] [] trivial trivial (by kernel_rfl) (by kernel_rfl) (by kernel_rfl) ?_
  refine r_out (by kernel_rfl) ?_
  refine go_seq ?_
  refine go_seq ?_
  refine r_in ?_
  refine o_batch 0 [] [.p, .p, .p, .p, .p] [(6, .slice A0z a0.length c0z), (7, .int .i64 (a0.length : Int)), (8, .slice A1z a1.length c1z), (9, .int .i64 (a1.length : Int)), (10, .bool ((a0.length : Int) != (a1.length : Int)))] [] trivial trivial (by kernel_rfl) (by kernel_rfl) (by kernel_rfl) ?_
  refine r_out (by kernel_rfl) ?_
  replace H := cond_some H
  rcases H with ⟨hc2, H⟩ | ⟨hc2, H⟩
  · refine go_then' (t := ((a0.length : Int) != (a1.length : Int))) (by kernel_rfl) hc2 ?_
    refine go_seq ?_
    refine r_in ?_
    refine o_batch 0 [] [.p] [(4, .bool false)] [] trivial trivial (by kernel_rfl) (by kernel_rfl) (by kernel_rfl) ?_
    refine r_out (by kernel_rfl) ?_
    replace H := Option.some.inj H
    subst H
    exact go_return (.bool false) Tryd.func25 (by kernel_rfl) ⟨rfl, hI⟩
  · refine go_else' (t := ((a0.length : Int) != (a1.length : Int))) (by kernel_rfl) hc2 ?_
    refine go_skip ?_
    refine go_seq ?_
    refine go_seq ?_
    refine r_in ?_
    refine o_batch 0 [] [.p] [(5, .int .i64 0)] [] trivial trivial (by kernel_rfl) (by kernel_rfl) (by kernel_rfl) ?_
    refine r_out (by kernel_rfl) ?_
    refine go_block ?_
    refine go_iter (assizeref05zSameInts.s1 a0 a1) (fun x84 f w => ∃ (j : Nat → Value), f = updL j [(0, .slice A0z a0.length c0z), (1, .slice A1z a1.length c1z), (5, .int .i64 x84)] ∧ Inv M w []) H ⟨_, at_slots _ (by kernel_rfl), hI⟩ ?_
    clear H hI
    rintro x84 _ _ o1 H ⟨_, rfl, hI⟩ hin1 hout1
    refine go_seq ?_
    refine go_seq ?_
    refine r_in ?_
    refine o_batch 0 [] [.p, .p, .p, .p] [(11, .int .i64 x84), (12, .slice A0z a0.length c0z), (13, .int .i64 (a0.length : Int)), (14, .bool (decide (x84 < (a0.length : Int))))] [] trivial trivial (by kernel_rfl) (by kernel_rfl) (by kernel_rfl) ?_
    refine r_out (by kernel_rfl) ?_
    replace H := cond_some H
    rcases H with ⟨hc86, H⟩ | ⟨hc86, H⟩
    · refine go_then' (t := decide (x84 < (a0.length : Int))) (by kernel_rfl) hc86 ?_
      refine go_skip ?_
      refine go_seq ?_
      refine go_block ?_
      refine go_seq ?_
      replace H := must_some H
      obtain ⟨g107, H⟩ := H
      obtain ⟨b108, q109, rfl, _⟩ := rdS.fopen hr0z rfl g107
      replace H := must_some H
      obtain ⟨g110, H⟩ := H
      obtain ⟨b111, q112, rfl, _⟩ := rdS.fopen hr1z rfl g110
      refine d_still [(b108, q109 + x84.toNat * 1, [.int .i64 (idx a0 x84)]), (b111, q112 + x84.toNat * 1, [.int .i64 (idx a1 x84)])] [.p, .p, .x, .l 0 0, .p, .p, .x, .l 1 0, .p] [(17, .slice (some ⟨b108, q109, none⟩) a0.length c0z), (18, .int .i64 x84), (19, .pointer (some ⟨b108, q109 + x84.toNat * 1, none⟩)), (20, .int .i64 (idx a0 x84)), (21, .slice (some ⟨b111, q112, none⟩) a1.length c1z), (22, .int .i64 x84), (23, .pointer (some ⟨b111, q112 + x84.toNat * 1, none⟩)), (24, .int .i64 (idx a1 x84)), (25, .bool (idx a0 x84 != idx a1 x84))] [(x84, a0.length), (x84, a1.length)] (by kernel_rfl) (by kernel_rfl) rfl ⟨(hI.lies (rdS.flook hr0z rfl g107)), (hI.lies (rdS.flook hr1z rfl g110)), trivial⟩ ⟨g107, g110, trivial⟩ (by kernel_rfl) (by kernel_rfl) (by kernel_rfl) hI ?_
      clear hI
      intro _ hI
      replace H := cond_some H
      rcases H with ⟨hc113, H⟩ | ⟨hc113, H⟩
      · refine go_then' (t := (idx a0 x84 != idx a1 x84)) (by kernel_rfl) hc113 ?_
        refine go_seq ?_
        refine r_in ?_
        refine o_batch 0 [] [.p] [(4, .bool false)] [] trivial trivial (by kernel_rfl) (by kernel_rfl) (by kernel_rfl) ?_
        refine r_out (by kernel_rfl) ?_
        replace H := out_some H
        obtain ⟨_, H, he1⟩ := H
        have he := (hout1 _ he1).symm
        subst he
        replace H := Option.some.inj H
        subst H
        exact go_return (.bool false) Tryd.func25 (by kernel_rfl) ⟨rfl, hI⟩
      · refine go_else' (t := (idx a0 x84 != idx a1 x84)) (by kernel_rfl) hc113 ?_
        refine go_skip ?_
        refine go_inBlock ?_
        refine r_in ?_
        refine o_batch 0 [] [.p, .p, .p] [(15, .int .i64 x84), (16, .int .i64 (w64 (x84 + 1))), (5, .int .i64 (w64 (x84 + 1)))] [] trivial trivial (by kernel_rfl) (by kernel_rfl) (by kernel_rfl) ?_
        refine r_out (by kernel_rfl) ?_
        exact hin1 _ (Option.some.inj H).symm _ _ ⟨_, at_slots _ (by kernel_rfl), hI⟩
    · refine go_else' (t := decide (x84 < (a0.length : Int))) (by kernel_rfl) hc86 ?_
      refine go_exit rfl ?_
      refine go_seq ?_
      refine r_in ?_
      refine o_batch 0 [] [.p] [(4, .bool true)] [] trivial trivial (by kernel_rfl) (by kernel_rfl) (by kernel_rfl) ?_
      refine r_out (by kernel_rfl) ?_
      replace H := out_some H
      obtain ⟨_, H, he1⟩ := H
      have he := (hout1 _ he1).symm
      subst he
      replace H := Option.some.inj H
      subst H
      exact go_return (.bool true) Tryd.func25 (by kernel_rfl) ⟨rfl, hI⟩

/-! ### assizelaw06.GraphTurned -/
theorem enter8 (a : Array Value) : Sem.pureRun Tryd.prog (callFunc 8 a) = some (.enter 8 a) := by kernel_rfl
theorem assizelaw06zGraphTurned_calls (a0 : Graph) (A0z0 : Option Addr) (c0z0 : Nat) (a1 : Int) (M : Mem) (w : World) (hI : Inv M w []) (hT : TabM M.blk) (hr0z0 : rdS kEdge M.blk A0z0 a0.Edges) (hl0z0 : a0.Edges.length ≤ c0z0) (r : Bool) (H : assizelaw06zGraphTurned a0 a1 = some r) :
    Calls Tryd.prog 8 #[.agg #[.int .i64 a0.N, .slice A0z0 a0.Edges.length c0z0], .int .i64 a1] w fun e w' => e = .returned (.bool r) ∧ Inv M w' [] := by
  refine calls_go (updL (fun _ => undef) [(0, .agg #[.int .i64 a0.N, .slice A0z0 a0.Edges.length c0z0]), (1, .int .i64 a1)]) Tryd.func8 rfl (by kernel_rfl) ?_
  intro cs
  unfold assizelaw06zGraphTurned at H
  refine go_seq ?_
  refine r_in ?_
  refine o_eff 0 _ rfl (by kernel_rfl) ?_
  refine e_box 24 _ (.agg #[.int .i64 a0.N, .slice A0z0 a0.Edges.length c0z0]) [.int .i64 a0.N, .slice A0z0 a0.Edges.length c0z0] rfl (by kernel_rfl) rfl hI ?_
  clear hI
  intro b2 _ hI
  refine o_batch 1 [] [.p] [(4, .bool false)] [] trivial trivial (by kernel_rfl) (by kernel_rfl) (by kernel_rfl) ?_
  refine r_out (by kernel_rfl) ?_
  refine go_seq ?_
  refine go_seq ?_
  refine r_in ?_
  replace H := bind_some H
  obtain ⟨y8, hy9, H⟩ := H
  refine o_eff 0 _ rfl (by kernel_rfl) ?_
  refine e_callf _ _ _ 10 #[] #[] #[] #[] rfl (by kernel_rfl) (by kernel_rfl) (by kernel_rfl) (enter10 _) (assizelaw06zalive_calls (memOf _) _ (Inv.start _) (hI.rd hT) _ hy9) ?_
  rintro _ _ ⟨rfl, hI'⟩
  replace hI := hI.call0 hI'
  clear hI'
  refine ⟨_, rfl, ?_⟩
  refine o_batch 1 [] [.p] [(19, .bool (!y8))] [] trivial trivial (by kernel_rfl) (by kernel_rfl) (by kernel_rfl) ?_
  refine r_out (by kernel_rfl) ?_
  replace H := cond_some H
  rcases H with ⟨hc10, H⟩ | ⟨hc10, H⟩
  · refine go_then' (t := !y8) (by kernel_rfl) hc10 ?_
    refine go_seq ?_
    refine r_in ?_
    refine o_batch 0 [] [.p] [(4, .bool false)] [] trivial trivial (by kernel_rfl) (by kernel_rfl) (by kernel_rfl) ?_
    refine r_out (by kernel_rfl) ?_
    replace H := Option.some.inj H
    subst H
    exact go_return (.bool false) Tryd.func8 (by kernel_rfl) ⟨rfl, hI.pick [] (by decide) rfl⟩
  · refine go_else' (t := !y8) (by kernel_rfl) hc10 ?_
    refine go_skip ?_
    refine go_seq ?_
    refine r_in ?_
    refine o_batch 0 [(b2, 0, [.int .i64 a0.N, .slice A0z0 a0.Edges.length c0z0])] [.p, .l 0 0, .p] [(20, .pointer (some ⟨b2, 0, none⟩)), (21, .int .i64 a0.N), (22, .agg #[.int .i64 a0.N, .slice none 0 0])] [] ⟨(hI.grp 0 rfl), trivial⟩ trivial (by kernel_rfl) (by kernel_rfl) (by kernel_rfl) ?_
    refine o_eff 3 _ rfl (by kernel_rfl) ?_
    refine e_alloc 24 (.agg #[.int .i64 0, .slice none 0 0]) [.int .i64 0, .slice none 0 0] rfl (by kernel_rfl) rfl hI ?_
    clear hI
    intro b12 _ hI
    refine o_eff 4 _ rfl (by kernel_rfl) ?_
    refine e_store 24 _ _ 1 b12 24 [.int .i64 0, .slice none 0 0] [.int .i64 a0.N, .slice none 0 0] 0 (.agg #[.int .i64 a0.N, .slice none 0 0]) rfl (by kernel_rfl) (by kernel_rfl) (by kernel_rfl) (by kernel_rfl) hI rfl (by kernel_rfl) (by kernel_rfl) ?_
    clear hI
    intro _ hI
    refine r_out (by kernel_rfl) ?_
    refine go_seq ?_
    refine go_seq ?_
    refine r_in ?_
    refine o_batch 0 [] [.p] [(6, .int .i64 0)] [] trivial trivial (by kernel_rfl) (by kernel_rfl) (by kernel_rfl) ?_
    refine r_out (by kernel_rfl) ?_
    refine go_block ?_
    refine go_iter (assizelaw06zGraphTurned.s1 a0 a1) (fun (l153, x156) f w => ∃ (j : Nat → Value) (A154 : Option Addr) (c155 : Nat), f = updL j [(1, .int .i64 a1), (2, .pointer (some ⟨b2, 0, none⟩)), (5, .pointer (some ⟨b12, 0, none⟩)), (6, .int .i64 x156)] ∧ Inv M w [.blk b2 24 [.int .i64 a0.N, .slice A0z0 a0.Edges.length c0z0], .blk b12 24 [.int .i64 a0.N, .slice A154 l153.length c155], .row kEdge 40 A154 l153.length c155 l153]) H ⟨_, none, 0, at_slots _ (by kernel_rfl), (hI.nilrow kEdge 40)⟩ ?_
    clear H hI
    rintro ⟨l153, x156⟩ _ _ o1 H ⟨_, A154, c155, rfl, hI⟩ hin1 hout1
    refine go_seq ?_
    refine go_seq ?_
    refine r_in ?_
    refine o_batch 0 [(b2, 0, [.int .i64 a0.N, .slice A0z0 a0.Edges.length c0z0])] [.p, .p, .l 0 1, .p, .p] [(23, .int .i64 x156), (24, .pointer (some ⟨b2, 1, none⟩)), (25, .slice A0z0 a0.Edges.length c0z0), (26, .int .i64 (a0.Edges.length : Int)), (27, .bool (decide (x156 < (a0.Edges.length : Int))))] [] ⟨(hI.grp 0 rfl), trivial⟩ trivial (by kernel_rfl) (by kernel_rfl) (by kernel_rfl) ?_
    refine r_out (by kernel_rfl) ?_
    replace H := cond_some H
    rcases H with ⟨hc158, H⟩ | ⟨hc158, H⟩
    · refine go_then' (t := decide (x156 < (a0.Edges.length : Int))) (by kernel_rfl) hc158 ?_
      refine go_skip ?_
      refine go_seq ?_
      refine go_block ?_
      refine go_seq ?_
      refine r_in ?_
      replace H := must_some H
      obtain ⟨g179, H⟩ := H
      obtain ⟨b180, q181, rfl, _⟩ := rdS.fopen hr0z0 rfl g179
      refine o_batch 0 [(b2, 0, [.int .i64 a0.N, .slice (some ⟨b180, q181, none⟩) a0.Edges.length c0z0]), (b180, q181 + x156.toNat * 4, [.int .i64 ((idx a0.Edges x156).From), .int .i64 ((idx a0.Edges x156).To), .int .i64 ((idx a0.Edges x156).Kind), .int .i64 ((idx a0.Edges x156).Key)])] [.p, .l 0 1, .p, .x, .l 1 0] [(30, .pointer (some ⟨b2, 1, none⟩)), (31, .slice (some ⟨b180, q181, none⟩) a0.Edges.length c0z0), (32, .int .i64 x156), (33, .pointer (some ⟨b180, q181 + x156.toNat * 4, none⟩)), (34, .agg #[.int .i64 ((idx a0.Edges x156).From), .int .i64 ((idx a0.Edges x156).To), .int .i64 ((idx a0.Edges x156).Kind), .int .i64 ((idx a0.Edges x156).Key)])] [(x156, a0.Edges.length)] ⟨(hI.grp 0 rfl), (hI.lies (rdS.flook hr0z0 rfl g179)), trivial⟩ ⟨g179, trivial⟩ (by kernel_rfl) (by kernel_rfl) (by kernel_rfl) ?_
      refine o_eff 5 _ rfl (by kernel_rfl) ?_
      refine e_alloc 40 (.agg #[.int .i64 0, .int .i64 0, .int .i64 0, .int .i64 0]) [.int .i64 0, .int .i64 0, .int .i64 0, .int .i64 0] rfl (by kernel_rfl) rfl hI ?_
      clear hI
      intro b182 _ hI
      refine o_eff 6 _ rfl (by kernel_rfl) ?_
      refine e_store 40 _ _ 3 b182 40 [.int .i64 0, .int .i64 0, .int .i64 0, .int .i64 0] [.int .i64 ((idx a0.Edges x156).From), .int .i64 ((idx a0.Edges x156).To), .int .i64 ((idx a0.Edges x156).Kind), .int .i64 ((idx a0.Edges x156).Key)] 0 (.agg #[.int .i64 ((idx a0.Edges x156).From), .int .i64 ((idx a0.Edges x156).To), .int .i64 ((idx a0.Edges x156).Kind), .int .i64 ((idx a0.Edges x156).Key)]) rfl (by kernel_rfl) (by kernel_rfl) (by kernel_rfl) (by kernel_rfl) hI rfl (by kernel_rfl) (by kernel_rfl) ?_
      clear hI
      intro _ hI
      refine r_out (by kernel_rfl) ?_
      refine go_seq ?_
      refine r_in ?_
      refine o_batch 0 [(b182, 0, [.int .i64 ((idx a0.Edges x156).From), .int .i64 ((idx a0.Edges x156).To), .int .i64 ((idx a0.Edges x156).Kind), .int .i64 ((idx a0.Edges x156).Key)])] [.p, .l 0 1, .p, .l 0 0, .p] [(35, .pointer (some ⟨b182, 1, none⟩)), (36, .int .i64 ((idx a0.Edges x156).To)), (37, .pointer (some ⟨b182, 0, none⟩)), (38, .int .i64 ((idx a0.Edges x156).From)), (39, .pointer (some ⟨b182, 0, none⟩))] [] ⟨(hI.grp 3 rfl), trivial⟩ trivial (by kernel_rfl) (by kernel_rfl) (by kernel_rfl) ?_
      refine o_eff 5 _ rfl (by kernel_rfl) ?_
      refine e_store 3 _ _ 3 b182 40 [.int .i64 ((idx a0.Edges x156).From), .int .i64 ((idx a0.Edges x156).To), .int .i64 ((idx a0.Edges x156).Kind), .int .i64 ((idx a0.Edges x156).Key)] [.int .i64 ((idx a0.Edges x156).To), .int .i64 ((idx a0.Edges x156).To), .int .i64 ((idx a0.Edges x156).Kind), .int .i64 ((idx a0.Edges x156).Key)] 0 (.int .i64 ((idx a0.Edges x156).To)) rfl (by kernel_rfl) (by kernel_rfl) (by kernel_rfl) (by kernel_rfl) hI rfl (by kernel_rfl) (by kernel_rfl) ?_
      clear hI
      intro _ hI
      refine o_batch 6 [] [.p] [(40, .pointer (some ⟨b182, 1, none⟩))] [] trivial trivial (by kernel_rfl) (by kernel_rfl) (by kernel_rfl) ?_
      refine o_eff 7 _ rfl (by kernel_rfl) ?_
      refine e_store 3 _ _ 3 b182 40 [.int .i64 ((idx a0.Edges x156).To), .int .i64 ((idx a0.Edges x156).To), .int .i64 ((idx a0.Edges x156).Kind), .int .i64 ((idx a0.Edges x156).Key)] [.int .i64 ((idx a0.Edges x156).To), .int .i64 ((idx a0.Edges x156).From), .int .i64 ((idx a0.Edges x156).Kind), .int .i64 ((idx a0.Edges x156).Key)] 1 (.int .i64 ((idx a0.Edges x156).From)) rfl (by kernel_rfl) (by kernel_rfl) (by kernel_rfl) (by kernel_rfl) hI rfl (by kernel_rfl) (by kernel_rfl) ?_
      clear hI
      intro _ hI
      refine r_out (by kernel_rfl) ?_
      refine r_in ?_
      refine o_batch 0 [(b12, 0, [.int .i64 a0.N, .slice A154 l153.length c155]), (b182, 0, [.int .i64 ((idx a0.Edges x156).To), .int .i64 ((idx a0.Edges x156).From), .int .i64 ((idx a0.Edges x156).Kind), .int .i64 ((idx a0.Edges x156).Key)])] [.p, .l 0 1, .l 1 0] [(41, .pointer (some ⟨b12, 1, none⟩)), (42, .slice A154 l153.length c155), (43, .agg #[.int .i64 ((idx a0.Edges x156).To), .int .i64 ((idx a0.Edges x156).From), .int .i64 ((idx a0.Edges x156).Kind), .int .i64 ((idx a0.Edges x156).Key)])] [] ⟨(hI.grp 1 rfl), (hI.grp 3 rfl), trivial⟩ trivial (by kernel_rfl) (by kernel_rfl) (by kernel_rfl) ?_
      refine o_eff 3 _ rfl (by kernel_rfl) ?_
      refine e_parts 22 40 1 _ _ _ #[.int .i64 ((idx a0.Edges x156).To), .int .i64 ((idx a0.Edges x156).From), .int .i64 ((idx a0.Edges x156).Kind), .int .i64 ((idx a0.Edges x156).Key)] [.int .i64 ((idx a0.Edges x156).To), .int .i64 ((idx a0.Edges x156).From), .int .i64 ((idx a0.Edges x156).Kind), .int .i64 ((idx a0.Edges x156).Key)] rfl rfl rfl rfl (by kernel_rfl) (by kernel_rfl) (by kernel_rfl) (by kernel_rfl) hI ?_
      clear hI
      intro b183 _ hI
      replace H := must_some H
      obtain ⟨g184, H⟩ := H
      refine o_eff 4 _ rfl (by kernel_rfl) ?_
      refine e_append kEdge 22 0 40 _ _ _ _ A154 l153.length c155 l153 ([(⟨(idx a0.Edges x156).To, (idx a0.Edges x156).From, (idx a0.Edges x156).Kind, (idx a0.Edges x156).Key⟩ : Edge)] : List Edge) b183 0 1 1 [.int .i64 ((idx a0.Edges x156).To), .int .i64 ((idx a0.Edges x156).From), .int .i64 ((idx a0.Edges x156).Kind), .int .i64 ((idx a0.Edges x156).Key)] 2 [] [0, 1, 3, 4] [] [.blk b2 24 [.int .i64 a0.N, .slice (some ⟨b180, q181, none⟩) a0.Edges.length c0z0], .blk b12 24 [.int .i64 a0.N, .slice A154 l153.length c155], .blk b182 40 [.int .i64 ((idx a0.Edges x156).To), .int .i64 ((idx a0.Edges x156).From), .int .i64 ((idx a0.Edges x156).Kind), .int .i64 ((idx a0.Edges x156).Key)], .blk b183 40 [.int .i64 ((idx a0.Edges x156).To), .int .i64 ((idx a0.Edges x156).From), .int .i64 ((idx a0.Edges x156).Kind), .int .i64 ((idx a0.Edges x156).Key)]] rfl (by kernel_rfl) (by kernel_rfl) rfl rfl rfl rfl rfl (by kernel_rfl) hI (by decide) rfl rfl rfl (hI.grp 4 rfl) g184 (mks_cons (mk_flat (k := kEdge) (⟨(idx a0.Edges x156).To, (idx a0.Edges x156).From, (idx a0.Edges x156).Kind, (idx a0.Edges x156).Key⟩ : Edge) [.int .i64 ((idx a0.Edges x156).To), .int .i64 ((idx a0.Edges x156).From), .int .i64 ((idx a0.Edges x156).Kind), .int .i64 ((idx a0.Edges x156).Key)] rfl) mks_nil) ?_
      clear hI
      intro A185 c186 _ hI
      replace hI := hI.pick (L' := [.row kEdge 40 A185 ((l153 ++ ([(⟨(idx a0.Edges x156).To, (idx a0.Edges x156).From, (idx a0.Edges x156).Kind, (idx a0.Edges x156).Key⟩ : Edge)] : List Edge)).length) c186 (l153 ++ ([(⟨(idx a0.Edges x156).To, (idx a0.Edges x156).From, (idx a0.Edges x156).Kind, (idx a0.Edges x156).Key⟩ : Edge)] : List Edge)), .blk b2 24 [.int .i64 a0.N, .slice (some ⟨b180, q181, none⟩) a0.Edges.length c0z0], .blk b12 24 [.int .i64 a0.N, .slice A154 l153.length c155], .blk b182 40 [.int .i64 ((idx a0.Edges x156).To), .int .i64 ((idx a0.Edges x156).From), .int .i64 ((idx a0.Edges x156).Kind), .int .i64 ((idx a0.Edges x156).Key)]]) [0, 1, 2, 3] (by decide) rfl
      refine o_batch 5 [] [.p] [(46, .pointer (some ⟨b12, 1, none⟩))] [] trivial trivial (by kernel_rfl) (by kernel_rfl) (by kernel_rfl) ?_
      refine o_eff 6 _ rfl (by kernel_rfl) ?_
      refine e_store 22 _ _ 2 b12 24 [.int .i64 a0.N, .slice A154 l153.length c155] [.int .i64 a0.N, .slice A185 ((l153 ++ ([(⟨(idx a0.Edges x156).To, (idx a0.Edges x156).From, (idx a0.Edges x156).Kind, (idx a0.Edges x156).Key⟩ : Edge)] : List Edge)).length) c186] 1 (.slice A185 ((l153 ++ ([(⟨(idx a0.Edges x156).To, (idx a0.Edges x156).From, (idx a0.Edges x156).Kind, (idx a0.Edges x156).Key⟩ : Edge)] : List Edge)).length) c186) rfl (by kernel_rfl) (by kernel_rfl) (by kernel_rfl) (by kernel_rfl) hI rfl (by kernel_rfl) (by kernel_rfl) ?_
      clear hI
      intro _ hI
      refine r_out (by kernel_rfl) ?_
      refine go_inBlock ?_
      refine r_in ?_
      refine o_batch 0 [] [.p, .p, .p] [(28, .int .i64 x156), (29, .int .i64 (w64 (x156 + 1))), (6, .int .i64 (w64 (x156 + 1)))] [] trivial trivial (by kernel_rfl) (by kernel_rfl) (by kernel_rfl) ?_
      refine r_out (by kernel_rfl) ?_
      exact hin1 _ (Option.some.inj H).symm _ _ ⟨_, A185, c186, at_slots _ (by kernel_rfl), hI.pick [1, 2, 0] (by decide) rfl⟩
    · refine go_else' (t := decide (x156 < (a0.Edges.length : Int))) (by kernel_rfl) hc158 ?_
      refine go_exit rfl ?_
      refine go_seq ?_
      refine r_in ?_
      refine o_batch 0 [(b2, 0, [.int .i64 a0.N, .slice A0z0 a0.Edges.length c0z0])] [.l 0 0, .p] [(48, .agg #[.int .i64 a0.N, .slice A0z0 a0.Edges.length c0z0]), (49, .int .i64 a1)] [] ⟨(hI.grp 0 rfl), trivial⟩ trivial (by kernel_rfl) (by kernel_rfl) (by kernel_rfl) ?_
      replace H := bind_some H
      obtain ⟨y191, hy192, H⟩ := H
      refine o_eff 2 _ rfl (by kernel_rfl) ?_
      refine e_callf _ _ _ 14 #[] #[] #[.agg #[.int .i64 a0.N, .slice A0z0 a0.Edges.length c0z0], .int .i64 a1] #[.agg #[.int .i64 a0.N, .slice A0z0 a0.Edges.length c0z0], .int .i64 a1] rfl (by kernel_rfl) (by kernel_rfl) (by kernel_rfl) (enter14 _) (graph_Closure_calls a0 A0z0 c0z0 a1 (memOf _) _ (Inv.start _) (hI.rd hT) (hI.rd hr0z0) hl0z0 _ hy192) ?_
      rintro _ _ ⟨A193, c194, rfl, hI'⟩
      replace hI := hI.call0 hI'
      clear hI'
      refine ⟨_, rfl, ?_⟩
      refine o_batch 3 [] [.p, .p, .p, .p, .p] [(47, .tuple #[.slice A193 y191.1.length c194, .int .i64 y191.2]), (51, .slice A193 y191.1.length c194), (52, .int .i64 y191.2), (8, .slice A193 y191.1.length c194), (9, .int .i64 y191.2)] [] trivial trivial (by kernel_rfl) (by kernel_rfl) (by kernel_rfl) ?_
      refine r_out (by kernel_rfl) ?_
      refine go_seq ?_
      refine r_in ?_
      refine o_batch 0 [(b12, 0, [.int .i64 a0.N, .slice A154 l153.length c155])] [.l 0 0, .p] [(54, .agg #[.int .i64 a0.N, .slice A154 l153.length c155]), (55, .int .i64 a1)] [] ⟨(hI.grp 1 rfl), trivial⟩ trivial (by kernel_rfl) (by kernel_rfl) (by kernel_rfl) ?_
      replace H := bind_some H
      obtain ⟨y199, hy200, H⟩ := H
      refine o_eff 2 _ rfl (by kernel_rfl) ?_
      refine e_callf _ _ _ 14 #[] #[] #[.agg #[.int .i64 a0.N, .slice A154 l153.length c155], .int .i64 a1] #[.agg #[.int .i64 a0.N, .slice A154 l153.length c155], .int .i64 a1] rfl (by kernel_rfl) (by kernel_rfl) (by kernel_rfl) (enter14 _) (graph_Closure_calls (⟨a0.N, l153⟩ : Graph) A154 c155 a1 (memOf _) _ (Inv.start _) (hI.rd hT) (hI.row 2 rfl) (hI.rowle 2 rfl) _ hy200) ?_
      rintro _ _ ⟨A201, c202, rfl, hI'⟩
      replace hI := hI.call0 hI'
      clear hI'
      refine ⟨_, rfl, ?_⟩
      refine o_batch 3 [] [.p, .p, .p, .p, .p] [(53, .tuple #[.slice A201 y199.1.length c202, .int .i64 y199.2]), (57, .slice A201 y199.1.length c202), (58, .int .i64 y199.2), (10, .slice A201 y199.1.length c202), (11, .int .i64 y199.2)] [] trivial trivial (by kernel_rfl) (by kernel_rfl) (by kernel_rfl) ?_
      refine r_out (by kernel_rfl) ?_
      refine go_seq ?_
      refine r_in ?_
      refine o_batch 0 [(b2, 0, [.int .i64 a0.N, .slice A0z0 a0.Edges.length c0z0])] [.l 0 0, .p] [(60, .agg #[.int .i64 a0.N, .slice A0z0 a0.Edges.length c0z0]), (61, .int .i64 a1)] [] ⟨(hI.grp 0 rfl), trivial⟩ trivial (by kernel_rfl) (by kernel_rfl) (by kernel_rfl) ?_
      replace H := bind_some H
      obtain ⟨y207, hy208, H⟩ := H
      refine o_eff 2 _ rfl (by kernel_rfl) ?_
      refine e_callf _ _ _ 23 #[] #[] #[.agg #[.int .i64 a0.N, .slice A0z0 a0.Edges.length c0z0], .int .i64 a1] #[.agg #[.int .i64 a0.N, .slice A0z0 a0.Edges.length c0z0], .int .i64 a1] rfl (by kernel_rfl) (by kernel_rfl) (by kernel_rfl) (enter23 _) (graph_Parts_calls a0 A0z0 c0z0 a1 (memOf _) _ (Inv.start _) (hI.rd hT) (hI.rd hr0z0) hl0z0 _ hy208) ?_
      rintro _ _ ⟨A209, c210, rfl, hI'⟩
      replace hI := hI.call0 hI'
      clear hI'
      refine ⟨_, rfl, ?_⟩
      refine o_batch 3 [] [.p, .p, .p, .p, .p] [(59, .tuple #[.slice A209 y207.1.length c210, .int .i64 y207.2]), (63, .slice A209 y207.1.length c210), (64, .int .i64 y207.2), (12, .slice A209 y207.1.length c210), (13, .int .i64 y207.2)] [] trivial trivial (by kernel_rfl) (by kernel_rfl) (by kernel_rfl) ?_
      refine r_out (by kernel_rfl) ?_
      refine go_seq ?_
      refine r_in ?_
      refine o_batch 0 [(b12, 0, [.int .i64 a0.N, .slice A154 l153.length c155])] [.l 0 0, .p] [(66, .agg #[.int .i64 a0.N, .slice A154 l153.length c155]), (67, .int .i64 a1)] [] ⟨(hI.grp 1 rfl), trivial⟩ trivial (by kernel_rfl) (by kernel_rfl) (by kernel_rfl) ?_
      replace H := bind_some H
      obtain ⟨y215, hy216, H⟩ := H
      refine o_eff 2 _ rfl (by kernel_rfl) ?_
      refine e_callf _ _ _ 23 #[] #[] #[.agg #[.int .i64 a0.N, .slice A154 l153.length c155], .int .i64 a1] #[.agg #[.int .i64 a0.N, .slice A154 l153.length c155], .int .i64 a1] rfl (by kernel_rfl) (by kernel_rfl) (by kernel_rfl) (enter23 _) (graph_Parts_calls (⟨a0.N, l153⟩ : Graph) A154 c155 a1 (memOf _) _ (Inv.start _) (hI.rd hT) (hI.row 2 rfl) (hI.rowle 2 rfl) _ hy216) ?_
      rintro _ _ ⟨A217, c218, rfl, hI'⟩
      replace hI := hI.call0 hI'
      clear hI'
      refine ⟨_, rfl, ?_⟩
      refine o_batch 3 [] [.p, .p, .p, .p, .p] [(65, .tuple #[.slice A217 y215.1.length c218, .int .i64 y215.2]), (69, .slice A217 y215.1.length c218), (70, .int .i64 y215.2), (14, .slice A217 y215.1.length c218), (15, .int .i64 y215.2)] [] trivial trivial (by kernel_rfl) (by kernel_rfl) (by kernel_rfl) ?_
      refine r_out (by kernel_rfl) ?_
      refine go_seq ?_
      refine go_seq_join (o := o1) (fun b231 f w => ∃ (j : Nat → Value), f = updL j [(8, .slice A193 y191.1.length c194), (10, .slice A201 y199.1.length c202), (91, .bool b231)] ∧ Inv M w [.row (tSlice 4 tBool) 27 A193 y191.1.length c194 y191.1, .row (tSlice 4 tBool) 27 A201 y199.1.length c202 y199.1]) (fun b231 => assizelaw06zGraphTurned.j2 y191 y199 b231) ?_ (fun hJ232 => ?_)
      · clear H hI
        rintro b231 _ _ ⟨_, rfl, hI⟩ H
        replace H := cond_some H
        rcases H with ⟨hc233, H⟩ | ⟨hc233, H⟩
        · refine go_then' (t := b231) (by kernel_rfl) hc233 ?_
          refine go_seq ?_
          refine r_in ?_
          refine o_batch 0 [] [.p] [(4, .bool false)] [] trivial trivial (by kernel_rfl) (by kernel_rfl) (by kernel_rfl) ?_
          refine r_out (by kernel_rfl) ?_
          replace H := out_some H
          obtain ⟨_, H, he1⟩ := H
          have he := (hout1 _ he1).symm
          subst he
          replace H := Option.some.inj H
          subst H
          exact go_return (.bool false) Tryd.func8 (by kernel_rfl) ⟨rfl, hI.pick [] (by decide) rfl⟩
        · refine go_else' (t := b231) (by kernel_rfl) hc233 ?_
          refine go_skip ?_
          refine go_seq ?_
          refine go_seq ?_
          refine r_in ?_
          refine o_batch 0 [] [.p] [(16, .int .i64 0)] [] trivial trivial (by kernel_rfl) (by kernel_rfl) (by kernel_rfl) ?_
          refine r_out (by kernel_rfl) ?_
          refine go_block ?_
          refine go_iter (assizelaw06zGraphTurned.s3 y191 y199) (fun x1336 f w => ∃ (j : Nat → Value), f = updL j [(8, .slice A193 y191.1.length c194), (10, .slice A201 y199.1.length c202), (16, .int .i64 x1336)] ∧ Inv M w [.row (tSlice 4 tBool) 27 A193 y191.1.length c194 y191.1, .row (tSlice 4 tBool) 27 A201 y199.1.length c202 y199.1]) H ⟨_, at_slots _ (by kernel_rfl), hI⟩ ?_
          clear H hI
          rintro x1336 _ _ o2 H ⟨_, rfl, hI⟩ hin2 hout2
          refine go_seq ?_
          refine go_seq ?_
          refine r_in ?_
          refine o_batch 0 [] [.p, .p, .p, .p] [(92, .int .i64 x1336), (93, .slice A193 y191.1.length c194), (94, .int .i64 (y191.1.length : Int)), (95, .bool (decide (x1336 < (y191.1.length : Int))))] [] trivial trivial (by kernel_rfl) (by kernel_rfl) (by kernel_rfl) ?_
          refine r_out (by kernel_rfl) ?_
          replace H := cond_some H
          rcases H with ⟨hc1338, H⟩ | ⟨hc1338, H⟩
          · refine go_then' (t := decide (x1336 < (y191.1.length : Int))) (by kernel_rfl) hc1338 ?_
            refine go_skip ?_
            refine go_seq ?_
            refine go_block ?_
            refine go_seq ?_
            refine r_in ?_
            refine o_batch 0 [] [.p] [(17, .int .i64 0)] [] trivial trivial (by kernel_rfl) (by kernel_rfl) (by kernel_rfl) ?_
            refine r_out (by kernel_rfl) ?_
            refine go_block ?_
            refine go_iter (assizelaw06zGraphTurned.s4 y191 y199 x1336) (fun x1835 f w => ∃ (j : Nat → Value), f = updL j [(8, .slice A193 y191.1.length c194), (10, .slice A201 y199.1.length c202), (16, .int .i64 x1336), (17, .int .i64 x1835)] ∧ Inv M w [.row (tSlice 4 tBool) 27 A193 y191.1.length c194 y191.1, .row (tSlice 4 tBool) 27 A201 y199.1.length c202 y199.1]) H ⟨_, at_slots _ (by kernel_rfl), hI⟩ ?_
            clear H hI
            rintro x1835 _ _ o3 H ⟨_, rfl, hI⟩ hin3 hout3
            refine go_seq ?_
            refine go_seq ?_
            refine r_in ?_
            refine o_batch 0 [] [.p, .p, .p, .p] [(98, .int .i64 x1835), (99, .slice A193 y191.1.length c194), (100, .int .i64 (y191.1.length : Int)), (101, .bool (decide (x1835 < (y191.1.length : Int))))] [] trivial trivial (by kernel_rfl) (by kernel_rfl) (by kernel_rfl) ?_
            refine r_out (by kernel_rfl) ?_
            replace H := cond_some H
            rcases H with ⟨hc1837, H⟩ | ⟨hc1837, H⟩
            · refine go_then' (t := decide (x1835 < (y191.1.length : Int))) (by kernel_rfl) hc1837 ?_
              refine go_skip ?_
              refine go_seq ?_
              refine go_block ?_
              refine go_seq_join (o := o3) (fun b1962 f w => ∃ (j : Nat → Value), f = updL j [(8, .slice A193 y191.1.length c194), (10, .slice A201 y199.1.length c202), (16, .int .i64 x1336), (17, .int .i64 x1835), (138, .bool b1962)] ∧ Inv M w [.row (tSlice 4 tBool) 27 A193 y191.1.length c194 y191.1, .row (tSlice 4 tBool) 27 A201 y199.1.length c202 y199.1]) (fun b1962 => assizelaw06zGraphTurned.j5 x1835 b1962) ?_ (fun hJ1963 => ?_)
              · clear H hI
                rintro b1962 _ _ ⟨_, rfl, hI⟩ H
                replace H := cond_some H
                rcases H with ⟨hc1964, H⟩ | ⟨hc1964, H⟩
                · refine go_then' (t := b1962) (by kernel_rfl) hc1964 ?_
                  refine go_seq ?_
                  refine r_in ?_
                  refine o_batch 0 [] [.p] [(4, .bool false)] [] trivial trivial (by kernel_rfl) (by kernel_rfl) (by kernel_rfl) ?_
                  refine r_out (by kernel_rfl) ?_
                  replace H := out_some H
                  obtain ⟨_, H, he3⟩ := H
                  have he := (hout3 _ he3).symm
                  subst he
                  replace H := out_some H
                  obtain ⟨_, H, he2⟩ := H
                  have he := (hout2 _ he2).symm
                  subst he
                  replace H := out_some H
                  obtain ⟨_, H, he1⟩ := H
                  have he := (hout1 _ he1).symm
                  subst he
                  replace H := Option.some.inj H
                  subst H
                  exact go_return (.bool false) Tryd.func8 (by kernel_rfl) ⟨rfl, hI.pick [] (by decide) rfl⟩
                · refine go_else' (t := b1962) (by kernel_rfl) hc1964 ?_
                  refine go_skip ?_
                  refine go_inBlock ?_
                  refine r_in ?_
                  refine o_batch 0 [] [.p, .p, .p] [(102, .int .i64 x1835), (103, .int .i64 (w64 (x1835 + 1))), (17, .int .i64 (w64 (x1835 + 1)))] [] trivial trivial (by kernel_rfl) (by kernel_rfl) (by kernel_rfl) ?_
                  refine r_out (by kernel_rfl) ?_
                  exact hin3 _ (Option.some.inj H).symm _ _ ⟨_, at_slots _ (by kernel_rfl), hI⟩
              · replace H := must_some H
                obtain ⟨g1965, H⟩ := H
                obtain ⟨b1966, rfl⟩ := hI.rowAt 0 rfl g1965
                obtain ⟨cs1969, hk1968, hg1967⟩ := rdS.look (hI.row 0 rfl) (hI.rowlen 0 rfl) g1965
                obtain ⟨A1970, c1971, rfl, hl1973, hr1972⟩ := hk1968
                replace H := cond_some H
                rcases H with ⟨hc1974, H⟩ | ⟨hc1974, H⟩
                · refine d_still [(b1966, 0 + x1336.toNat * 1, [.slice A1970 ((idx y191.1 x1336).length) c1971])] [.p, .p, .x, .l 0 0, .p, .p, .p, .p, .c true, .p, .p, .p, .p, .p, .p, .p, .p, .p, .p, .p, .p, .p, .p, .p, .p, .p, .p, .p, .p, .p, .p, .p, .p, .p, .p] [(104, .slice (some ⟨b1966, 0, none⟩) y191.1.length c194), (105, .int .i64 x1336), (106, .pointer (some ⟨b1966, 0 + x1336.toNat * 1, none⟩)), (107, .slice A1970 ((idx y191.1 x1336).length) c1971), (108, .int .i64 ((idx y191.1 x1336).length : Int)), (109, .slice (some ⟨b1966, 0, none⟩) y191.1.length c194), (110, .int .i64 (y191.1.length : Int)), (111, .bool (((idx y191.1 x1336).length : Int) != (y191.1.length : Int))), (112, .bool true), (113, undef), (114, undef), (115, undef), (116, undef), (117, undef), (118, undef), (119, undef), (120, undef), (121, .bool true), (122, .bool true), (123, undef), (124, undef), (125, undef), (126, undef), (127, undef), (128, undef), (129, undef), (130, undef), (131, undef), (132, undef), (133, undef), (134, undef), (135, undef), (136, undef), (137, undef), (138, .bool true)] [(x1336, y191.1.length), ((bif (((idx y191.1 x1336).length : Int) != (y191.1.length : Int)) == true then 0 else -1), 1)] (by kernel_rfl) (by kernel_rfl) rfl ⟨hg1967.ok, trivial⟩ ⟨g1965, (bndEq hc1974), trivial⟩ (by kernel_rfl) (by kernel_rfl) (by kernel_rfl) hI ?_
                  clear hI
                  intro _ hI
                  exact hJ1963 true _ _ ⟨_, at_slots _ (by kernel_rfl), hI⟩ H
                · replace H := must_some H
                  obtain ⟨g1975, H⟩ := H
                  obtain ⟨b1976, rfl⟩ := hI.rowAt 1 rfl g1975
                  obtain ⟨cs1979, hk1978, hg1977⟩ := rdS.look (hI.row 1 rfl) (hI.rowlen 1 rfl) g1975
                  obtain ⟨A1980, c1981, rfl, hl1983, hr1982⟩ := hk1978
                  replace H := cond_some H
                  rcases H with ⟨hc1984, H⟩ | ⟨hc1984, H⟩
                  · refine d_still [(b1966, 0 + x1336.toNat * 1, [.slice A1970 ((idx y191.1 x1336).length) c1971]), (b1976, 0 + x1835.toNat * 1, [.slice A1980 ((idx y199.1 x1835).length) c1981])] [.p, .p, .x, .l 0 0, .p, .p, .p, .p, .c false, .p, .p, .x, .l 1 0, .p, .p, .p, .p, .p, .c true, .p, .p, .p, .p, .p, .p, .p, .p, .p, .p, .p, .p, .p, .p, .p, .p] [(104, .slice (some ⟨b1966, 0, none⟩) y191.1.length c194), (105, .int .i64 x1336), (106, .pointer (some ⟨b1966, 0 + x1336.toNat * 1, none⟩)), (107, .slice A1970 ((idx y191.1 x1336).length) c1971), (108, .int .i64 ((idx y191.1 x1336).length : Int)), (109, .slice (some ⟨b1966, 0, none⟩) y191.1.length c194), (110, .int .i64 (y191.1.length : Int)), (111, .bool (((idx y191.1 x1336).length : Int) != (y191.1.length : Int))), (112, .bool false), (113, .slice (some ⟨b1976, 0, none⟩) y199.1.length c202), (114, .int .i64 x1835), (115, .pointer (some ⟨b1976, 0 + x1835.toNat * 1, none⟩)), (116, .slice A1980 ((idx y199.1 x1835).length) c1981), (117, .int .i64 ((idx y199.1 x1835).length : Int)), (118, .slice (some ⟨b1966, 0, none⟩) y191.1.length c194), (119, .int .i64 (y191.1.length : Int)), (120, .bool (((idx y199.1 x1835).length : Int) != (y191.1.length : Int))), (121, .bool (((idx y199.1 x1835).length : Int) != (y191.1.length : Int))), (122, .bool true), (123, undef), (124, undef), (125, undef), (126, undef), (127, undef), (128, undef), (129, undef), (130, undef), (131, undef), (132, undef), (133, undef), (134, undef), (135, undef), (136, undef), (137, undef), (138, .bool true)] [(x1336, y191.1.length), ((bif (((idx y191.1 x1336).length : Int) != (y191.1.length : Int)) == false then 0 else -1), 1), (x1835, y199.1.length), ((bif (((idx y199.1 x1835).length : Int) != (y191.1.length : Int)) == true then 0 else -1), 1)] (by kernel_rfl) (by kernel_rfl) rfl ⟨hg1967.ok, hg1977.ok, trivial⟩ ⟨g1965, (bndEq hc1974), g1975, (bndEq hc1984), trivial⟩ (by kernel_rfl) (by kernel_rfl) (by kernel_rfl) hI ?_
                    clear hI
                    intro _ hI
                    exact hJ1963 true _ _ ⟨_, at_slots _ (by kernel_rfl), hI⟩ H
                  · obtain ⟨cs1987, hk1986, hg1985⟩ := rdS.look (hI.row 0 rfl) (hI.rowlen 0 rfl) g1965
                    obtain ⟨A1988, c1989, rfl, hl1991, hr1990⟩ := hk1986
                    replace H := must_some H
                    obtain ⟨g1992, H⟩ := H
                    obtain ⟨b1993, q1994, rfl, _⟩ := rdS.fopen hr1990 rfl g1992
                    obtain ⟨cs1997, hk1996, hg1995⟩ := rdS.look (hI.row 1 rfl) (hI.rowlen 1 rfl) g1975
                    obtain ⟨A1998, c1999, rfl, hl2001, hr2000⟩ := hk1996
                    replace H := must_some H
                    obtain ⟨g2002, H⟩ := H
                    obtain ⟨b2003, q2004, rfl, _⟩ := rdS.fopen hr2000 rfl g2002
                    refine d_still [(b1966, 0 + x1336.toNat * 1, [.slice A1970 ((idx y191.1 x1336).length) c1971]), (b1976, 0 + x1835.toNat * 1, [.slice A1980 ((idx y199.1 x1835).length) c1981]), (b1966, 0 + x1336.toNat * 1, [.slice (some ⟨b1993, q1994, none⟩) ((idx y191.1 x1336).length) c1989]), (b1993, q1994 + x1835.toNat * 1, [.bool (idx (idx y191.1 x1336) x1835)]), (b1976, 0 + x1835.toNat * 1, [.slice (some ⟨b2003, q2004, none⟩) ((idx y199.1 x1835).length) c1999]), (b2003, q2004 + x1336.toNat * 1, [.bool (idx (idx y199.1 x1835) x1336)])] [.p, .p, .x, .l 0 0, .p, .p, .p, .p, .c false, .p, .p, .x, .l 1 0, .p, .p, .p, .p, .p, .c false, .p, .p, .x, .l 2 0, .p, .x, .l 3 0, .p, .p, .x, .l 4 0, .p, .x, .l 5 0, .p, .p] [(104, .slice (some ⟨b1966, 0, none⟩) y191.1.length c194), (105, .int .i64 x1336), (106, .pointer (some ⟨b1966, 0 + x1336.toNat * 1, none⟩)), (107, .slice A1970 ((idx y191.1 x1336).length) c1971), (108, .int .i64 ((idx y191.1 x1336).length : Int)), (109, .slice (some ⟨b1966, 0, none⟩) y191.1.length c194), (110, .int .i64 (y191.1.length : Int)), (111, .bool (((idx y191.1 x1336).length : Int) != (y191.1.length : Int))), (112, .bool false), (113, .slice (some ⟨b1976, 0, none⟩) y199.1.length c202), (114, .int .i64 x1835), (115, .pointer (some ⟨b1976, 0 + x1835.toNat * 1, none⟩)), (116, .slice A1980 ((idx y199.1 x1835).length) c1981), (117, .int .i64 ((idx y199.1 x1835).length : Int)), (118, .slice (some ⟨b1966, 0, none⟩) y191.1.length c194), (119, .int .i64 (y191.1.length : Int)), (120, .bool (((idx y199.1 x1835).length : Int) != (y191.1.length : Int))), (121, .bool (((idx y199.1 x1835).length : Int) != (y191.1.length : Int))), (122, .bool false), (123, .slice (some ⟨b1966, 0, none⟩) y191.1.length c194), (124, .int .i64 x1336), (125, .pointer (some ⟨b1966, 0 + x1336.toNat * 1, none⟩)), (126, .slice (some ⟨b1993, q1994, none⟩) ((idx y191.1 x1336).length) c1989), (127, .int .i64 x1835), (128, .pointer (some ⟨b1993, q1994 + x1835.toNat * 1, none⟩)), (129, .bool (idx (idx y191.1 x1336) x1835)), (130, .slice (some ⟨b1976, 0, none⟩) y199.1.length c202), (131, .int .i64 x1835), (132, .pointer (some ⟨b1976, 0 + x1835.toNat * 1, none⟩)), (133, .slice (some ⟨b2003, q2004, none⟩) ((idx y199.1 x1835).length) c1999), (134, .int .i64 x1336), (135, .pointer (some ⟨b2003, q2004 + x1336.toNat * 1, none⟩)), (136, .bool (idx (idx y199.1 x1835) x1336)), (137, .bool (idx (idx y191.1 x1336) x1835 != idx (idx y199.1 x1835) x1336)), (138, .bool (idx (idx y191.1 x1336) x1835 != idx (idx y199.1 x1835) x1336))] [(x1336, y191.1.length), ((bif (((idx y191.1 x1336).length : Int) != (y191.1.length : Int)) == false then 0 else -1), 1), (x1835, y199.1.length), ((bif (((idx y199.1 x1835).length : Int) != (y191.1.length : Int)) == false then 0 else -1), 1), (x1336, y191.1.length), (x1835, (idx y191.1 x1336).length), (x1835, y199.1.length), (x1336, (idx y199.1 x1835).length)] (by kernel_rfl) (by kernel_rfl) rfl ⟨hg1967.ok, hg1977.ok, hg1985.ok, (rdS.flook hr1990 rfl g1992).ok, hg1995.ok, (rdS.flook hr2000 rfl g2002).ok, trivial⟩ ⟨g1965, (bndEq hc1974), g1975, (bndEq hc1984), g1965, g1992, g1975, g2002, trivial⟩ (by kernel_rfl) (by kernel_rfl) (by kernel_rfl) hI ?_
                    clear hI
                    intro _ hI
                    exact hJ1963 (idx (idx y191.1 x1336) x1835 != idx (idx y199.1 x1835) x1336) _ _ ⟨_, at_slots _ (by kernel_rfl), hI⟩ H
            · refine go_else' (t := decide (x1835 < (y191.1.length : Int))) (by kernel_rfl) hc1837 ?_
              refine go_exit rfl ?_
              refine go_inBlock ?_
              refine r_in ?_
              refine o_batch 0 [] [.p, .p, .p] [(96, .int .i64 x1336), (97, .int .i64 (w64 (x1336 + 1))), (16, .int .i64 (w64 (x1336 + 1)))] [] trivial trivial (by kernel_rfl) (by kernel_rfl) (by kernel_rfl) ?_
              refine r_out (by kernel_rfl) ?_
              replace H := out_some H
              obtain ⟨_, H, he3⟩ := H
              have he := (hout3 _ he3).symm
              subst he
              exact hin2 _ (Option.some.inj H).symm _ _ ⟨_, at_slots _ (by kernel_rfl), hI⟩
          · refine go_else' (t := decide (x1336 < (y191.1.length : Int))) (by kernel_rfl) hc1338 ?_
            refine go_exit rfl ?_
            refine go_seq ?_
            refine r_in ?_
            refine o_batch 0 [] [.p] [(4, .bool true)] [] trivial trivial (by kernel_rfl) (by kernel_rfl) (by kernel_rfl) ?_
            refine r_out (by kernel_rfl) ?_
            replace H := out_some H
            obtain ⟨_, H, he2⟩ := H
            have he := (hout2 _ he2).symm
            subst he
            replace H := out_some H
            obtain ⟨_, H, he1⟩ := H
            have he := (hout1 _ he1).symm
            subst he
            replace H := Option.some.inj H
            subst H
            exact go_return (.bool true) Tryd.func8 (by kernel_rfl) ⟨rfl, hI.pick [] (by decide) rfl⟩
      · refine r_in ?_
        replace H := cond_some H
        rcases H with ⟨hc2005, H⟩ | ⟨hc2005, H⟩
        · refine o_batch 0 [] [.p, .p, .p, .c true, .p, .p, .p, .p, .p, .p, .p, .p, .p, .p, .p, .p, .p, .p, .p, .p, .p] [(71, .int .i64 y191.2), (72, .int .i64 y199.2), (73, .bool (y191.2 != y199.2)), (74, .bool true), (75, undef), (76, undef), (77, undef), (78, .bool true), (79, .bool true), (80, undef), (81, undef), (82, undef), (83, undef), (84, undef), (85, .bool true), (86, .bool true), (87, undef), (88, undef), (89, undef), (90, undef), (91, .bool true)] [((bif (y191.2 != y199.2) == true then 0 else -1), 1)] trivial ⟨(bndEq hc2005), trivial⟩ (by kernel_rfl) (by kernel_rfl) (by kernel_rfl) ?_
          refine r_out (by kernel_rfl) ?_
          exact hJ232 true _ _ ⟨_, at_slots _ (by kernel_rfl), hI.pick [3, 4] (by decide) rfl⟩ H
        · replace H := cond_some H
          rcases H with ⟨hc2006, H⟩ | ⟨hc2006, H⟩
          · refine o_batch 0 [] [.p, .p, .p, .c false, .p, .p, .p, .p, .c true, .p, .p, .p, .p, .p, .p, .p, .p, .p, .p, .p, .p] [(71, .int .i64 y191.2), (72, .int .i64 y199.2), (73, .bool (y191.2 != y199.2)), (74, .bool false), (75, .int .i64 y207.2), (76, .int .i64 y215.2), (77, .bool (y207.2 != y215.2)), (78, .bool (y207.2 != y215.2)), (79, .bool true), (80, undef), (81, undef), (82, undef), (83, undef), (84, undef), (85, .bool true), (86, .bool true), (87, undef), (88, undef), (89, undef), (90, undef), (91, .bool true)] [((bif (y191.2 != y199.2) == false then 0 else -1), 1), ((bif (y207.2 != y215.2) == true then 0 else -1), 1)] trivial ⟨(bndEq hc2005), (bndEq hc2006), trivial⟩ (by kernel_rfl) (by kernel_rfl) (by kernel_rfl) ?_
            refine r_out (by kernel_rfl) ?_
            exact hJ232 true _ _ ⟨_, at_slots _ (by kernel_rfl), hI.pick [3, 4] (by decide) rfl⟩ H
          · replace H := cond_some H
            rcases H with ⟨hc2007, H⟩ | ⟨hc2007, H⟩
            · refine o_batch 0 [] [.p, .p, .p, .c false, .p, .p, .p, .p, .c false, .p, .p, .p, .p, .p, .p, .c true, .p, .p, .p, .p, .p] [(71, .int .i64 y191.2), (72, .int .i64 y199.2), (73, .bool (y191.2 != y199.2)), (74, .bool false), (75, .int .i64 y207.2), (76, .int .i64 y215.2), (77, .bool (y207.2 != y215.2)), (78, .bool (y207.2 != y215.2)), (79, .bool false), (80, .slice A193 y191.1.length c194), (81, .int .i64 (y191.1.length : Int)), (82, .slice A201 y199.1.length c202), (83, .int .i64 (y199.1.length : Int)), (84, .bool ((y191.1.length : Int) != (y199.1.length : Int))), (85, .bool ((y191.1.length : Int) != (y199.1.length : Int))), (86, .bool true), (87, undef), (88, undef), (89, undef), (90, undef), (91, .bool true)] [((bif (y191.2 != y199.2) == false then 0 else -1), 1), ((bif (y207.2 != y215.2) == false then 0 else -1), 1), ((bif ((y191.1.length : Int) != (y199.1.length : Int)) == true then 0 else -1), 1)] trivial ⟨(bndEq hc2005), (bndEq hc2006), (bndEq hc2007), trivial⟩ (by kernel_rfl) (by kernel_rfl) (by kernel_rfl) ?_
              refine r_out (by kernel_rfl) ?_
              exact hJ232 true _ _ ⟨_, at_slots _ (by kernel_rfl), hI.pick [3, 4] (by decide) rfl⟩ H
            · refine o_batch 0 [] [.p, .p, .p, .c false, .p, .p, .p, .p, .c false, .p, .p, .p, .p, .p, .p, .c false, .p, .p] [(71, .int .i64 y191.2), (72, .int .i64 y199.2), (73, .bool (y191.2 != y199.2)), (74, .bool false), (75, .int .i64 y207.2), (76, .int .i64 y215.2), (77, .bool (y207.2 != y215.2)), (78, .bool (y207.2 != y215.2)), (79, .bool false), (80, .slice A193 y191.1.length c194), (81, .int .i64 (y191.1.length : Int)), (82, .slice A201 y199.1.length c202), (83, .int .i64 (y199.1.length : Int)), (84, .bool ((y191.1.length : Int) != (y199.1.length : Int))), (85, .bool ((y191.1.length : Int) != (y199.1.length : Int))), (86, .bool false), (87, .slice A209 y207.1.length c210), (88, .slice A217 y215.1.length c218)] [((bif (y191.2 != y199.2) == false then 0 else -1), 1), ((bif (y207.2 != y215.2) == false then 0 else -1), 1), ((bif ((y191.1.length : Int) != (y199.1.length : Int)) == false then 0 else -1), 1)] trivial ⟨(bndEq hc2005), (bndEq hc2006), (bndEq hc2007), trivial⟩ (by kernel_rfl) (by kernel_rfl) (by kernel_rfl) ?_
              replace H := bind_some H
              obtain ⟨y2008, hy2009, H⟩ := H
              refine o_eff 18 _ rfl (by kernel_rfl) ?_
              refine e_callf _ _ _ 25 #[] #[] #[.slice A209 y207.1.length c210, .slice A217 y215.1.length c218] #[.slice A209 y207.1.length c210, .slice A217 y215.1.length c218] rfl (by kernel_rfl) (by kernel_rfl) (by kernel_rfl) (enter25 _) (assizeref05zSameInts_calls A209 c210 y207.1 A217 c218 y215.1 (memOf _) _ (Inv.start _) (hI.row 5 rfl) (hI.rowle 5 rfl) (hI.row 6 rfl) (hI.rowle 6 rfl) _ hy2009) ?_
              rintro _ _ ⟨rfl, hI'⟩
              replace hI := hI.call0 hI'
              clear hI'
              refine ⟨_, rfl, ?_⟩
              refine o_batch 19 [] [.p, .p] [(90, .bool (!y2008)), (91, .bool (!y2008))] [] trivial trivial (by kernel_rfl) (by kernel_rfl) (by kernel_rfl) ?_
              refine r_out (by kernel_rfl) ?_
              exact hJ232 (!y2008) _ _ ⟨_, at_slots _ (by kernel_rfl), hI.pick [3, 4] (by decide) rfl⟩ H

end Go.Proofs.YtncapkloanfmnaaDoorT
