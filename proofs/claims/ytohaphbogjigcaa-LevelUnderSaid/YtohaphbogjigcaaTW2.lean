/- The walks, part 2: each call computes its plain function. -/
import Derived.Test.YtohaphbogjigcaaTW1
import Derived.Test.YtohaphbogjigcaaProg
namespace Go.Proofs.YtohaphbogjigcaaT
open Go Go.Proofs Go.Proofs.YtohaphbogjigcaaE
set_option linter.unusedVariables false
set_option linter.unusedSimpArgs false
set_option maxHeartbeats 0
set_option maxRecDepth 4096
/-! ### level.below -/
theorem enter24 (a : Array Value) : Sem.pureRun Try.prog (callFunc 24 a) = some (.enter 24 a) := by kernel_rfl
theorem level_below_calls  (M : Mem) (w : World) (hI : Inv M w []) (r : List Int) (H : level_below = some r) :
    Calls Try.prog 24 #[] w fun e w' => e = .returned (.agg #[.int .u16 (idx r (0 : Int)), .int .u16 (idx r (1 : Int)), .int .u16 (idx r (2 : Int)), .int .u16 (idx r (3 : Int)), .int .u16 (idx r (4 : Int)), .int .u16 (idx r (5 : Int)), .int .u16 (idx r (6 : Int)), .int .u16 (idx r (7 : Int)), .int .u16 (idx r (8 : Int))]) ∧ Inv M w' [] := by
  refine calls_go (updL (fun _ => undef) []) Try.func24 rfl (by kernel_rfl) ?_
  intro cs
  unfold level_below at H
  refine go_seq ?_
  refine r_in ?_
  refine o_eff 0 _ rfl (by kernel_rfl) ?_
  refine e_alloc 42 (.agg #[.int .u16 0, .int .u16 0, .int .u16 0, .int .u16 0, .int .u16 0, .int .u16 0, .int .u16 0, .int .u16 0, .int .u16 0]) [.int .u16 0, .int .u16 0, .int .u16 0, .int .u16 0, .int .u16 0, .int .u16 0, .int .u16 0, .int .u16 0, .int .u16 0] rfl (by kernel_rfl) rfl hI ?_
  clear hI
  intro b1 _ hI
  refine r_out (by kernel_rfl) ?_
  refine go_seq ?_
  refine r_in ?_
  refine o_eff 0 _ rfl (by kernel_rfl) ?_
  refine e_alloc 42 (.agg #[.int .u16 0, .int .u16 0, .int .u16 0, .int .u16 0, .int .u16 0, .int .u16 0, .int .u16 0, .int .u16 0, .int .u16 0]) [.int .u16 0, .int .u16 0, .int .u16 0, .int .u16 0, .int .u16 0, .int .u16 0, .int .u16 0, .int .u16 0, .int .u16 0] rfl (by kernel_rfl) rfl hI ?_
  clear hI
  intro b2 _ hI
  refine r_out (by kernel_rfl) ?_
  refine go_seq ?_
  refine go_seq ?_
  refine r_in ?_
  refine o_batch 0 [] [.p] [(2, .int .i64 8)] [] trivial trivial (by kernel_rfl) (by kernel_rfl) (by kernel_rfl) ?_
  refine r_out (by kernel_rfl) ?_
  refine go_block ?_
  refine go_loop ?_
  refine go_seq ?_
  refine go_seq ?_
  refine r_in ?_
  refine o_batch 0 [] [.p, .p] [(5, .int .i64 8), (6, .bool true)] [] trivial trivial (by kernel_rfl) (by kernel_rfl) (by kernel_rfl) ?_
  refine r_out (by kernel_rfl) ?_
  refine go_then (by kernel_rfl) ?_
  refine go_skip ?_
  refine go_seq ?_
  refine go_block ?_
  refine go_seq ?_
  refine r_in ?_
  refine o_batch 0 [] [.p, .p, .x, .p] [(9, .int .i64 8), (10, .int .i64 8), (11, .int .u16 256), (12, .pointer (some ⟨b2, 8, none⟩))] [(8, far)] trivial ⟨(by decide), trivial⟩ (by kernel_rfl) (by kernel_rfl) (by kernel_rfl) ?_
  refine o_eff 4 _ rfl (by kernel_rfl) ?_
  refine e_store 41 _ _ 1 b2 42 [.int .u16 0, .int .u16 0, .int .u16 0, .int .u16 0, .int .u16 0, .int .u16 0, .int .u16 0, .int .u16 0, .int .u16 0] [.int .u16 0, .int .u16 0, .int .u16 0, .int .u16 0, .int .u16 0, .int .u16 0, .int .u16 0, .int .u16 0, .int .u16 256] 8 (.int .u16 256) rfl (by kernel_rfl) (by kernel_rfl) (by kernel_rfl) (by kernel_rfl) hI rfl (by kernel_rfl) (by kernel_rfl) ?_
  clear hI
  intro _ hI
  refine r_out (by kernel_rfl) ?_
  refine go_seq ?_
  refine r_in ?_
  replace H := bind_some H
  obtain ⟨y3, hy4, H⟩ := H
  have hyc : y3 = level_Pairs_lit := (Option.some.inj hy4).symm
  subst hyc
  refine o_eff 0 _ rfl (by kernel_rfl) ?_
  refine e_callf _ _ _ 14 #[] #[] #[] #[] rfl (by kernel_rfl) (by kernel_rfl) (by kernel_rfl) (enter14 _) (level_Pairs_calls (memOf _) _ (Inv.start _) _ hy4) ?_
  rintro _ _ ⟨A5, c6, rfl, hI'⟩
  replace hI := hI.call0 hI'
  clear hI'
  refine ⟨_, rfl, ?_⟩
  refine o_batch 1 [] [.p, .p] [(14, .int .i64 (level_Pairs_lit.length : Int)), (15, .int .i64 0)] [] trivial trivial (by kernel_rfl) (by kernel_rfl) (by kernel_rfl) ?_
  refine r_out (by kernel_rfl) ?_
  refine go_block ?_
  refine go_loop ?_
  refine go_seq ?_
  refine r_in ?_
  refine o_batch 0 [] [.p] [(16, .bool true)] [] trivial trivial (by kernel_rfl) (by kernel_rfl) (by kernel_rfl) ?_
  refine r_out (by kernel_rfl) ?_
  refine go_seq ?_
  refine go_then (by kernel_rfl) ?_
  refine go_skip ?_
  refine go_seq ?_
  refine go_block ?_
  refine go_seq ?_
  refine r_in ?_
  obtain ⟨b7, rfl⟩ := hI.rowAt 2 rfl (by decide : 0 ≤ (0 : Int) ∧ (0 : Int) < (level_Pairs_lit.length : Int))
  refine o_batch 0 [(b7, 0 + (0 : Int).toNat * 2, [.int .i64 1, .int .i64 2])] [.x, .l 0 0] [(17, .pointer (some ⟨b7, 0 + (0 : Int).toNat * 2, none⟩)), (18, .agg #[.int .i64 1, .int .i64 2])] [(0, level_Pairs_lit.length)] ⟨(rdS.flook (hI.row 2 rfl) (hI.rowlen 2 rfl) (by decide : 0 ≤ (0 : Int) ∧ (0 : Int) < (level_Pairs_lit.length : Int))).ok, trivial⟩ ⟨(by decide : 0 ≤ (0 : Int) ∧ (0 : Int) < (level_Pairs_lit.length : Int)), trivial⟩ (by kernel_rfl) (by kernel_rfl) (by kernel_rfl) ?_
  refine o_eff 2 _ rfl (by kernel_rfl) ?_
  refine e_alloc 32 (.agg #[.int .i64 0, .int .i64 0]) [.int .i64 0, .int .i64 0] rfl (by kernel_rfl) rfl hI ?_
  clear hI
  intro b8 _ hI
  refine o_eff 3 _ rfl (by kernel_rfl) ?_
  refine e_store 32 _ _ 3 b8 32 [.int .i64 0, .int .i64 0] [.int .i64 1, .int .i64 2] 0 (.agg #[.int .i64 1, .int .i64 2]) rfl (by kernel_rfl) (by kernel_rfl) (by kernel_rfl) (by kernel_rfl) hI rfl (by kernel_rfl) (by kernel_rfl) ?_
  clear hI
  intro _ hI
  refine r_out (by kernel_rfl) ?_
  refine go_seq ?_
  refine r_in ?_
  refine o_batch 0 [(b8, 0, [.int .i64 1, .int .i64 2])] [.p, .l 0 0, .p, .p] [(19, .pointer (some ⟨b8, 0, none⟩)), (20, .int .i64 1), (21, .int .i64 8), (22, .bool false)] [] ⟨(hI.grp 3 rfl), trivial⟩ trivial (by kernel_rfl) (by kernel_rfl) (by kernel_rfl) ?_
  refine r_out (by kernel_rfl) ?_
  refine go_else (by kernel_rfl) ?_
  refine go_skip ?_
  refine go_inBlock ?_
  refine r_in ?_
  refine o_batch 0 [] [.p, .p] [(32, .int .i64 1), (15, .int .i64 1)] [] trivial trivial (by kernel_rfl) (by kernel_rfl) (by kernel_rfl) ?_
  refine r_out (by kernel_rfl) ?_
  refine go_again ?_
  refine go_gen [(0, .pointer (some ⟨b1, 0, none⟩)), (1, .pointer (some ⟨b2, 0, none⟩)), (2, .int .i64 8), (13, .slice (some ⟨b7, 0, none⟩) level_Pairs_lit.length c6), (14, .int .i64 (level_Pairs_lit.length : Int)), (15, .int .i64 1)] (by kernel_rfl) ?_
  intro _
  replace hI := hI.pick (L' := [.blk b1 42 [.int .u16 0, .int .u16 0, .int .u16 0, .int .u16 0, .int .u16 0, .int .u16 0, .int .u16 0, .int .u16 0, .int .u16 0], .blk b2 42 [.int .u16 0, .int .u16 0, .int .u16 0, .int .u16 0, .int .u16 0, .int .u16 0, .int .u16 0, .int .u16 0, .int .u16 256], .row (Ty.flat 2 (fun x : Int × Int => [.int .i64 x.1, .int .i64 x.2]) (fun _ => rfl) (fun _ => oneAll rfl)) 32 (some ⟨b7, 0, none⟩) level_Pairs_lit.length c6 level_Pairs_lit]) [0, 1, 2] (by decide) rfl
  refine go_seq ?_
  refine r_in ?_
  refine o_batch 0 [] [.p] [(16, .bool true)] [] trivial trivial (by kernel_rfl) (by kernel_rfl) (by kernel_rfl) ?_
  refine r_out (by kernel_rfl) ?_
  refine go_seq ?_
  refine go_then (by kernel_rfl) ?_
  refine go_skip ?_
  refine go_seq ?_
  refine go_block ?_
  refine go_seq ?_
  refine r_in ?_
  refine o_batch 0 [(b7, 0 + (1 : Int).toNat * 2, [.int .i64 2, .int .i64 6])] [.x, .l 0 0] [(17, .pointer (some ⟨b7, 0 + (1 : Int).toNat * 2, none⟩)), (18, .agg #[.int .i64 2, .int .i64 6])] [(1, level_Pairs_lit.length)] ⟨(rdS.flook (hI.row 2 rfl) (hI.rowlen 2 rfl) (by decide : 0 ≤ (1 : Int) ∧ (1 : Int) < (level_Pairs_lit.length : Int))).ok, trivial⟩ ⟨(by decide : 0 ≤ (1 : Int) ∧ (1 : Int) < (level_Pairs_lit.length : Int)), trivial⟩ (by kernel_rfl) (by kernel_rfl) (by kernel_rfl) ?_
  refine o_eff 2 _ rfl (by kernel_rfl) ?_
  refine e_alloc 32 (.agg #[.int .i64 0, .int .i64 0]) [.int .i64 0, .int .i64 0] rfl (by kernel_rfl) rfl hI ?_
  clear hI
  intro b9 _ hI
  refine o_eff 3 _ rfl (by kernel_rfl) ?_
  refine e_store 32 _ _ 3 b9 32 [.int .i64 0, .int .i64 0] [.int .i64 2, .int .i64 6] 0 (.agg #[.int .i64 2, .int .i64 6]) rfl (by kernel_rfl) (by kernel_rfl) (by kernel_rfl) (by kernel_rfl) hI rfl (by kernel_rfl) (by kernel_rfl) ?_
  clear hI
  intro _ hI
  refine r_out (by kernel_rfl) ?_
  refine go_seq ?_
  refine r_in ?_
  refine o_batch 0 [(b9, 0, [.int .i64 2, .int .i64 6])] [.p, .l 0 0, .p, .p] [(19, .pointer (some ⟨b9, 0, none⟩)), (20, .int .i64 2), (21, .int .i64 8), (22, .bool false)] [] ⟨(hI.grp 3 rfl), trivial⟩ trivial (by kernel_rfl) (by kernel_rfl) (by kernel_rfl) ?_
  refine r_out (by kernel_rfl) ?_
  refine go_else (by kernel_rfl) ?_
  refine go_skip ?_
  refine go_inBlock ?_
  refine r_in ?_
  refine o_batch 0 [] [.p, .p] [(32, .int .i64 2), (15, .int .i64 2)] [] trivial trivial (by kernel_rfl) (by kernel_rfl) (by kernel_rfl) ?_
  refine r_out (by kernel_rfl) ?_
  refine go_again ?_
  refine go_gen [(0, .pointer (some ⟨b1, 0, none⟩)), (1, .pointer (some ⟨b2, 0, none⟩)), (2, .int .i64 8), (13, .slice (some ⟨b7, 0, none⟩) level_Pairs_lit.length c6), (14, .int .i64 (level_Pairs_lit.length : Int)), (15, .int .i64 2)] (by kernel_rfl) ?_
  intro _
  replace hI := hI.pick (L' := [.blk b1 42 [.int .u16 0, .int .u16 0, .int .u16 0, .int .u16 0, .int .u16 0, .int .u16 0, .int .u16 0, .int .u16 0, .int .u16 0], .blk b2 42 [.int .u16 0, .int .u16 0, .int .u16 0, .int .u16 0, .int .u16 0, .int .u16 0, .int .u16 0, .int .u16 0, .int .u16 256], .row (Ty.flat 2 (fun x : Int × Int => [.int .i64 x.1, .int .i64 x.2]) (fun _ => rfl) (fun _ => oneAll rfl)) 32 (some ⟨b7, 0, none⟩) level_Pairs_lit.length c6 level_Pairs_lit]) [0, 1, 2] (by decide) rfl
  refine go_seq ?_
  refine r_in ?_
  refine o_batch 0 [] [.p] [(16, .bool true)] [] trivial trivial (by kernel_rfl) (by kernel_rfl) (by kernel_rfl) ?_
  refine r_out (by kernel_rfl) ?_
  refine go_seq ?_
  refine go_then (by kernel_rfl) ?_
  refine go_skip ?_
  refine go_seq ?_
  refine go_block ?_
  refine go_seq ?_
  refine r_in ?_
  refine o_batch 0 [(b7, 0 + (2 : Int).toNat * 2, [.int .i64 1, .int .i64 3])] [.x, .l 0 0] [(17, .pointer (some ⟨b7, 0 + (2 : Int).toNat * 2, none⟩)), (18, .agg #[.int .i64 1, .int .i64 3])] [(2, level_Pairs_lit.length)] ⟨(rdS.flook (hI.row 2 rfl) (hI.rowlen 2 rfl) (by decide : 0 ≤ (2 : Int) ∧ (2 : Int) < (level_Pairs_lit.length : Int))).ok, trivial⟩ ⟨(by decide : 0 ≤ (2 : Int) ∧ (2 : Int) < (level_Pairs_lit.length : Int)), trivial⟩ (by kernel_rfl) (by kernel_rfl) (by kernel_rfl) ?_
  refine o_eff 2 _ rfl (by kernel_rfl) ?_
  refine e_alloc 32 (.agg #[.int .i64 0, .int .i64 0]) [.int .i64 0, .int .i64 0] rfl (by kernel_rfl) rfl hI ?_
  clear hI
  intro b10 _ hI
  refine o_eff 3 _ rfl (by kernel_rfl) ?_
  refine e_store 32 _ _ 3 b10 32 [.int .i64 0, .int .i64 0] [.int .i64 1, .int .i64 3] 0 (.agg #[.int .i64 1, .int .i64 3]) rfl (by kernel_rfl) (by kernel_rfl) (by kernel_rfl) (by kernel_rfl) hI rfl (by kernel_rfl) (by kernel_rfl) ?_
  clear hI
  intro _ hI
  refine r_out (by kernel_rfl) ?_
  refine go_seq ?_
  refine r_in ?_
  refine o_batch 0 [(b10, 0, [.int .i64 1, .int .i64 3])] [.p, .l 0 0, .p, .p] [(19, .pointer (some ⟨b10, 0, none⟩)), (20, .int .i64 1), (21, .int .i64 8), (22, .bool false)] [] ⟨(hI.grp 3 rfl), trivial⟩ trivial (by kernel_rfl) (by kernel_rfl) (by kernel_rfl) ?_
  refine r_out (by kernel_rfl) ?_
  refine go_else (by kernel_rfl) ?_
  refine go_skip ?_
  refine go_inBlock ?_
  refine r_in ?_
  refine o_batch 0 [] [.p, .p] [(32, .int .i64 3), (15, .int .i64 3)] [] trivial trivial (by kernel_rfl) (by kernel_rfl) (by kernel_rfl) ?_
  refine r_out (by kernel_rfl) ?_
  refine go_again ?_
  refine go_gen [(0, .pointer (some ⟨b1, 0, none⟩)), (1, .pointer (some ⟨b2, 0, none⟩)), (2, .int .i64 8), (13, .slice (some ⟨b7, 0, none⟩) level_Pairs_lit.length c6), (14, .int .i64 (level_Pairs_lit.length : Int)), (15, .int .i64 3)] (by kernel_rfl) ?_
  intro _
  replace hI := hI.pick (L' := [.blk b1 42 [.int .u16 0, .int .u16 0, .int .u16 0, .int .u16 0, .int .u16 0, .int .u16 0, .int .u16 0, .int .u16 0, .int .u16 0], .blk b2 42 [.int .u16 0, .int .u16 0, .int .u16 0, .int .u16 0, .int .u16 0, .int .u16 0, .int .u16 0, .int .u16 0, .int .u16 256], .row (Ty.flat 2 (fun x : Int × Int => [.int .i64 x.1, .int .i64 x.2]) (fun _ => rfl) (fun _ => oneAll rfl)) 32 (some ⟨b7, 0, none⟩) level_Pairs_lit.length c6 level_Pairs_lit]) [0, 1, 2] (by decide) rfl
  refine go_seq ?_
  refine r_in ?_
  refine o_batch 0 [] [.p] [(16, .bool true)] [] trivial trivial (by kernel_rfl) (by kernel_rfl) (by kernel_rfl) ?_
  refine r_out (by kernel_rfl) ?_
  refine go_seq ?_
  refine go_then (by kernel_rfl) ?_
  refine go_skip ?_
  refine go_seq ?_
  refine go_block ?_
  refine go_seq ?_
  refine r_in ?_
  refine o_batch 0 [(b7, 0 + (3 : Int).toNat * 2, [.int .i64 3, .int .i64 4])] [.x, .l 0 0] [(17, .pointer (some ⟨b7, 0 + (3 : Int).toNat * 2, none⟩)), (18, .agg #[.int .i64 3, .int .i64 4])] [(3, level_Pairs_lit.length)] ⟨(rdS.flook (hI.row 2 rfl) (hI.rowlen 2 rfl) (by decide : 0 ≤ (3 : Int) ∧ (3 : Int) < (level_Pairs_lit.length : Int))).ok, trivial⟩ ⟨(by decide : 0 ≤ (3 : Int) ∧ (3 : Int) < (level_Pairs_lit.length : Int)), trivial⟩ (by kernel_rfl) (by kernel_rfl) (by kernel_rfl) ?_
  refine o_eff 2 _ rfl (by kernel_rfl) ?_
  refine e_alloc 32 (.agg #[.int .i64 0, .int .i64 0]) [.int .i64 0, .int .i64 0] rfl (by kernel_rfl) rfl hI ?_
  clear hI
  intro b11 _ hI
  refine o_eff 3 _ rfl (by kernel_rfl) ?_
  refine e_store 32 _ _ 3 b11 32 [.int .i64 0, .int .i64 0] [.int .i64 3, .int .i64 4] 0 (.agg #[.int .i64 3, .int .i64 4]) rfl (by kernel_rfl) (by kernel_rfl) (by kernel_rfl) (by kernel_rfl) hI rfl (by kernel_rfl) (by kernel_rfl) ?_
  clear hI
  intro _ hI
  refine r_out (by kernel_rfl) ?_
  refine go_seq ?_
  refine r_in ?_
  refine o_batch 0 [(b11, 0, [.int .i64 3, .int .i64 4])] [.p, .l 0 0, .p, .p] [(19, .pointer (some ⟨b11, 0, none⟩)), (20, .int .i64 3), (21, .int .i64 8), (22, .bool false)] [] ⟨(hI.grp 3 rfl), trivial⟩ trivial (by kernel_rfl) (by kernel_rfl) (by kernel_rfl) ?_
  refine r_out (by kernel_rfl) ?_
  refine go_else (by kernel_rfl) ?_
  refine go_skip ?_
  refine go_inBlock ?_
  refine r_in ?_
  refine o_batch 0 [] [.p, .p] [(32, .int .i64 4), (15, .int .i64 4)] [] trivial trivial (by kernel_rfl) (by kernel_rfl) (by kernel_rfl) ?_
  refine r_out (by kernel_rfl) ?_
  refine go_again ?_
  refine go_gen [(0, .pointer (some ⟨b1, 0, none⟩)), (1, .pointer (some ⟨b2, 0, none⟩)), (2, .int .i64 8), (13, .slice (some ⟨b7, 0, none⟩) level_Pairs_lit.length c6), (14, .int .i64 (level_Pairs_lit.length : Int)), (15, .int .i64 4)] (by kernel_rfl) ?_
  intro _
  replace hI := hI.pick (L' := [.blk b1 42 [.int .u16 0, .int .u16 0, .int .u16 0, .int .u16 0, .int .u16 0, .int .u16 0, .int .u16 0, .int .u16 0, .int .u16 0], .blk b2 42 [.int .u16 0, .int .u16 0, .int .u16 0, .int .u16 0, .int .u16 0, .int .u16 0, .int .u16 0, .int .u16 0, .int .u16 256], .row (Ty.flat 2 (fun x : Int × Int => [.int .i64 x.1, .int .i64 x.2]) (fun _ => rfl) (fun _ => oneAll rfl)) 32 (some ⟨b7, 0, none⟩) level_Pairs_lit.length c6 level_Pairs_lit]) [0, 1, 2] (by decide) rfl
  refine go_seq ?_
  refine r_in ?_
  refine o_batch 0 [] [.p] [(16, .bool true)] [] trivial trivial (by kernel_rfl) (by kernel_rfl) (by kernel_rfl) ?_
  refine r_out (by kernel_rfl) ?_
  refine go_seq ?_
  refine go_then (by kernel_rfl) ?_
  refine go_skip ?_
  refine go_seq ?_
  refine go_block ?_
  refine go_seq ?_
  refine r_in ?_
  refine o_batch 0 [(b7, 0 + (4 : Int).toNat * 2, [.int .i64 4, .int .i64 5])] [.x, .l 0 0] [(17, .pointer (some ⟨b7, 0 + (4 : Int).toNat * 2, none⟩)), (18, .agg #[.int .i64 4, .int .i64 5])] [(4, level_Pairs_lit.length)] ⟨(rdS.flook (hI.row 2 rfl) (hI.rowlen 2 rfl) (by decide : 0 ≤ (4 : Int) ∧ (4 : Int) < (level_Pairs_lit.length : Int))).ok, trivial⟩ ⟨(by decide : 0 ≤ (4 : Int) ∧ (4 : Int) < (level_Pairs_lit.length : Int)), trivial⟩ (by kernel_rfl) (by kernel_rfl) (by kernel_rfl) ?_
  refine o_eff 2 _ rfl (by kernel_rfl) ?_
  refine e_alloc 32 (.agg #[.int .i64 0, .int .i64 0]) [.int .i64 0, .int .i64 0] rfl (by kernel_rfl) rfl hI ?_
  clear hI
  intro b12 _ hI
  refine o_eff 3 _ rfl (by kernel_rfl) ?_
  refine e_store 32 _ _ 3 b12 32 [.int .i64 0, .int .i64 0] [.int .i64 4, .int .i64 5] 0 (.agg #[.int .i64 4, .int .i64 5]) rfl (by kernel_rfl) (by kernel_rfl) (by kernel_rfl) (by kernel_rfl) hI rfl (by kernel_rfl) (by kernel_rfl) ?_
  clear hI
  intro _ hI
  refine r_out (by kernel_rfl) ?_
  refine go_seq ?_
  refine r_in ?_
  refine o_batch 0 [(b12, 0, [.int .i64 4, .int .i64 5])] [.p, .l 0 0, .p, .p] [(19, .pointer (some ⟨b12, 0, none⟩)), (20, .int .i64 4), (21, .int .i64 8), (22, .bool false)] [] ⟨(hI.grp 3 rfl), trivial⟩ trivial (by kernel_rfl) (by kernel_rfl) (by kernel_rfl) ?_
  refine r_out (by kernel_rfl) ?_
  refine go_else (by kernel_rfl) ?_
  refine go_skip ?_
  refine go_inBlock ?_
  refine r_in ?_
  refine o_batch 0 [] [.p, .p] [(32, .int .i64 5), (15, .int .i64 5)] [] trivial trivial (by kernel_rfl) (by kernel_rfl) (by kernel_rfl) ?_
  refine r_out (by kernel_rfl) ?_
  refine go_again ?_
  refine go_gen [(0, .pointer (some ⟨b1, 0, none⟩)), (1, .pointer (some ⟨b2, 0, none⟩)), (2, .int .i64 8), (13, .slice (some ⟨b7, 0, none⟩) level_Pairs_lit.length c6), (14, .int .i64 (level_Pairs_lit.length : Int)), (15, .int .i64 5)] (by kernel_rfl) ?_
  intro _
  replace hI := hI.pick (L' := [.blk b1 42 [.int .u16 0, .int .u16 0, .int .u16 0, .int .u16 0, .int .u16 0, .int .u16 0, .int .u16 0, .int .u16 0, .int .u16 0], .blk b2 42 [.int .u16 0, .int .u16 0, .int .u16 0, .int .u16 0, .int .u16 0, .int .u16 0, .int .u16 0, .int .u16 0, .int .u16 256], .row (Ty.flat 2 (fun x : Int × Int => [.int .i64 x.1, .int .i64 x.2]) (fun _ => rfl) (fun _ => oneAll rfl)) 32 (some ⟨b7, 0, none⟩) level_Pairs_lit.length c6 level_Pairs_lit]) [0, 1, 2] (by decide) rfl
  refine go_seq ?_
  refine r_in ?_
  refine o_batch 0 [] [.p] [(16, .bool true)] [] trivial trivial (by kernel_rfl) (by kernel_rfl) (by kernel_rfl) ?_
  refine r_out (by kernel_rfl) ?_
  refine go_seq ?_
  refine go_then (by kernel_rfl) ?_
  refine go_skip ?_
  refine go_seq ?_
  refine go_block ?_
  refine go_seq ?_
  refine r_in ?_
  refine o_batch 0 [(b7, 0 + (5 : Int).toNat * 2, [.int .i64 5, .int .i64 6])] [.x, .l 0 0] [(17, .pointer (some ⟨b7, 0 + (5 : Int).toNat * 2, none⟩)), (18, .agg #[.int .i64 5, .int .i64 6])] [(5, level_Pairs_lit.length)] ⟨(rdS.flook (hI.row 2 rfl) (hI.rowlen 2 rfl) (by decide : 0 ≤ (5 : Int) ∧ (5 : Int) < (level_Pairs_lit.length : Int))).ok, trivial⟩ ⟨(by decide : 0 ≤ (5 : Int) ∧ (5 : Int) < (level_Pairs_lit.length : Int)), trivial⟩ (by kernel_rfl) (by kernel_rfl) (by kernel_rfl) ?_
  refine o_eff 2 _ rfl (by kernel_rfl) ?_
  refine e_alloc 32 (.agg #[.int .i64 0, .int .i64 0]) [.int .i64 0, .int .i64 0] rfl (by kernel_rfl) rfl hI ?_
  clear hI
  intro b13 _ hI
  refine o_eff 3 _ rfl (by kernel_rfl) ?_
  refine e_store 32 _ _ 3 b13 32 [.int .i64 0, .int .i64 0] [.int .i64 5, .int .i64 6] 0 (.agg #[.int .i64 5, .int .i64 6]) rfl (by kernel_rfl) (by kernel_rfl) (by kernel_rfl) (by kernel_rfl) hI rfl (by kernel_rfl) (by kernel_rfl) ?_
  clear hI
  intro _ hI
  refine r_out (by kernel_rfl) ?_
  refine go_seq ?_
  refine r_in ?_
  refine o_batch 0 [(b13, 0, [.int .i64 5, .int .i64 6])] [.p, .l 0 0, .p, .p] [(19, .pointer (some ⟨b13, 0, none⟩)), (20, .int .i64 5), (21, .int .i64 8), (22, .bool false)] [] ⟨(hI.grp 3 rfl), trivial⟩ trivial (by kernel_rfl) (by kernel_rfl) (by kernel_rfl) ?_
  refine r_out (by kernel_rfl) ?_
  refine go_else (by kernel_rfl) ?_
  refine go_skip ?_
  refine go_inBlock ?_
  refine r_in ?_
  refine o_batch 0 [] [.p, .p] [(32, .int .i64 6), (15, .int .i64 6)] [] trivial trivial (by kernel_rfl) (by kernel_rfl) (by kernel_rfl) ?_
  refine r_out (by kernel_rfl) ?_
  refine go_again ?_
  refine go_gen [(0, .pointer (some ⟨b1, 0, none⟩)), (1, .pointer (some ⟨b2, 0, none⟩)), (2, .int .i64 8), (13, .slice (some ⟨b7, 0, none⟩) level_Pairs_lit.length c6), (14, .int .i64 (level_Pairs_lit.length : Int)), (15, .int .i64 6)] (by kernel_rfl) ?_
  intro _
  replace hI := hI.pick (L' := [.blk b1 42 [.int .u16 0, .int .u16 0, .int .u16 0, .int .u16 0, .int .u16 0, .int .u16 0, .int .u16 0, .int .u16 0, .int .u16 0], .blk b2 42 [.int .u16 0, .int .u16 0, .int .u16 0, .int .u16 0, .int .u16 0, .int .u16 0, .int .u16 0, .int .u16 0, .int .u16 256], .row (Ty.flat 2 (fun x : Int × Int => [.int .i64 x.1, .int .i64 x.2]) (fun _ => rfl) (fun _ => oneAll rfl)) 32 (some ⟨b7, 0, none⟩) level_Pairs_lit.length c6 level_Pairs_lit]) [0, 1, 2] (by decide) rfl
  refine go_seq ?_
  refine r_in ?_
  refine o_batch 0 [] [.p] [(16, .bool true)] [] trivial trivial (by kernel_rfl) (by kernel_rfl) (by kernel_rfl) ?_
  refine r_out (by kernel_rfl) ?_
  refine go_seq ?_
  refine go_then (by kernel_rfl) ?_
  refine go_skip ?_
  refine go_seq ?_
  refine go_block ?_
  refine go_seq ?_
  refine r_in ?_
  refine o_batch 0 [(b7, 0 + (6 : Int).toNat * 2, [.int .i64 6, .int .i64 7])] [.x, .l 0 0] [(17, .pointer (some ⟨b7, 0 + (6 : Int).toNat * 2, none⟩)), (18, .agg #[.int .i64 6, .int .i64 7])] [(6, level_Pairs_lit.length)] ⟨(rdS.flook (hI.row 2 rfl) (hI.rowlen 2 rfl) (by decide : 0 ≤ (6 : Int) ∧ (6 : Int) < (level_Pairs_lit.length : Int))).ok, trivial⟩ ⟨(by decide : 0 ≤ (6 : Int) ∧ (6 : Int) < (level_Pairs_lit.length : Int)), trivial⟩ (by kernel_rfl) (by kernel_rfl) (by kernel_rfl) ?_
  refine o_eff 2 _ rfl (by kernel_rfl) ?_
  refine e_alloc 32 (.agg #[.int .i64 0, .int .i64 0]) [.int .i64 0, .int .i64 0] rfl (by kernel_rfl) rfl hI ?_
  clear hI
  intro b14 _ hI
  refine o_eff 3 _ rfl (by kernel_rfl) ?_
  refine e_store 32 _ _ 3 b14 32 [.int .i64 0, .int .i64 0] [.int .i64 6, .int .i64 7] 0 (.agg #[.int .i64 6, .int .i64 7]) rfl (by kernel_rfl) (by kernel_rfl) (by kernel_rfl) (by kernel_rfl) hI rfl (by kernel_rfl) (by kernel_rfl) ?_
  clear hI
  intro _ hI
  refine r_out (by kernel_rfl) ?_
  refine go_seq ?_
  refine r_in ?_
  refine o_batch 0 [(b14, 0, [.int .i64 6, .int .i64 7])] [.p, .l 0 0, .p, .p] [(19, .pointer (some ⟨b14, 0, none⟩)), (20, .int .i64 6), (21, .int .i64 8), (22, .bool false)] [] ⟨(hI.grp 3 rfl), trivial⟩ trivial (by kernel_rfl) (by kernel_rfl) (by kernel_rfl) ?_
  refine r_out (by kernel_rfl) ?_
  refine go_else (by kernel_rfl) ?_
  refine go_skip ?_
  refine go_inBlock ?_
  refine r_in ?_
  refine o_batch 0 [] [.p, .p] [(32, .int .i64 7), (15, .int .i64 7)] [] trivial trivial (by kernel_rfl) (by kernel_rfl) (by kernel_rfl) ?_
  refine r_out (by kernel_rfl) ?_
  refine go_again ?_
  refine go_gen [(0, .pointer (some ⟨b1, 0, none⟩)), (1, .pointer (some ⟨b2, 0, none⟩)), (2, .int .i64 8), (13, .slice (some ⟨b7, 0, none⟩) level_Pairs_lit.length c6), (14, .int .i64 (level_Pairs_lit.length : Int)), (15, .int .i64 7)] (by kernel_rfl) ?_
  intro _
  replace hI := hI.pick (L' := [.blk b1 42 [.int .u16 0, .int .u16 0, .int .u16 0, .int .u16 0, .int .u16 0, .int .u16 0, .int .u16 0, .int .u16 0, .int .u16 0], .blk b2 42 [.int .u16 0, .int .u16 0, .int .u16 0, .int .u16 0, .int .u16 0, .int .u16 0, .int .u16 0, .int .u16 0, .int .u16 256], .row (Ty.flat 2 (fun x : Int × Int => [.int .i64 x.1, .int .i64 x.2]) (fun _ => rfl) (fun _ => oneAll rfl)) 32 (some ⟨b7, 0, none⟩) level_Pairs_lit.length c6 level_Pairs_lit]) [0, 1, 2] (by decide) rfl
  refine go_seq ?_
  refine r_in ?_
  refine o_batch 0 [] [.p] [(16, .bool true)] [] trivial trivial (by kernel_rfl) (by kernel_rfl) (by kernel_rfl) ?_
  refine r_out (by kernel_rfl) ?_
  refine go_seq ?_
  refine go_then (by kernel_rfl) ?_
  refine go_skip ?_
  refine go_seq ?_
  refine go_block ?_
  refine go_seq ?_
  refine r_in ?_
  refine o_batch 0 [(b7, 0 + (7 : Int).toNat * 2, [.int .i64 7, .int .i64 8])] [.x, .l 0 0] [(17, .pointer (some ⟨b7, 0 + (7 : Int).toNat * 2, none⟩)), (18, .agg #[.int .i64 7, .int .i64 8])] [(7, level_Pairs_lit.length)] ⟨(rdS.flook (hI.row 2 rfl) (hI.rowlen 2 rfl) (by decide : 0 ≤ (7 : Int) ∧ (7 : Int) < (level_Pairs_lit.length : Int))).ok, trivial⟩ ⟨(by decide : 0 ≤ (7 : Int) ∧ (7 : Int) < (level_Pairs_lit.length : Int)), trivial⟩ (by kernel_rfl) (by kernel_rfl) (by kernel_rfl) ?_
  refine o_eff 2 _ rfl (by kernel_rfl) ?_
  refine e_alloc 32 (.agg #[.int .i64 0, .int .i64 0]) [.int .i64 0, .int .i64 0] rfl (by kernel_rfl) rfl hI ?_
  clear hI
  intro b15 _ hI
  refine o_eff 3 _ rfl (by kernel_rfl) ?_
  refine e_store 32 _ _ 3 b15 32 [.int .i64 0, .int .i64 0] [.int .i64 7, .int .i64 8] 0 (.agg #[.int .i64 7, .int .i64 8]) rfl (by kernel_rfl) (by kernel_rfl) (by kernel_rfl) (by kernel_rfl) hI rfl (by kernel_rfl) (by kernel_rfl) ?_
  clear hI
  intro _ hI
  refine r_out (by kernel_rfl) ?_
  refine go_seq ?_
  refine r_in ?_
  refine o_batch 0 [(b15, 0, [.int .i64 7, .int .i64 8])] [.p, .l 0 0, .p, .p] [(19, .pointer (some ⟨b15, 0, none⟩)), (20, .int .i64 7), (21, .int .i64 8), (22, .bool false)] [] ⟨(hI.grp 3 rfl), trivial⟩ trivial (by kernel_rfl) (by kernel_rfl) (by kernel_rfl) ?_
  refine r_out (by kernel_rfl) ?_
  refine go_else (by kernel_rfl) ?_
  refine go_skip ?_
  refine go_inBlock ?_
  refine r_in ?_
  refine o_batch 0 [] [.p, .p] [(32, .int .i64 8), (15, .int .i64 8)] [] trivial trivial (by kernel_rfl) (by kernel_rfl) (by kernel_rfl) ?_
  refine r_out (by kernel_rfl) ?_
  refine go_again ?_
  refine go_gen [(0, .pointer (some ⟨b1, 0, none⟩)), (1, .pointer (some ⟨b2, 0, none⟩)), (2, .int .i64 8), (13, .slice (some ⟨b7, 0, none⟩) level_Pairs_lit.length c6), (14, .int .i64 (level_Pairs_lit.length : Int)), (15, .int .i64 8)] (by kernel_rfl) ?_
  intro _
  replace hI := hI.pick (L' := [.blk b1 42 [.int .u16 0, .int .u16 0, .int .u16 0, .int .u16 0, .int .u16 0, .int .u16 0, .int .u16 0, .int .u16 0, .int .u16 0], .blk b2 42 [.int .u16 0, .int .u16 0, .int .u16 0, .int .u16 0, .int .u16 0, .int .u16 0, .int .u16 0, .int .u16 0, .int .u16 256], .row (Ty.flat 2 (fun x : Int × Int => [.int .i64 x.1, .int .i64 x.2]) (fun _ => rfl) (fun _ => oneAll rfl)) 32 (some ⟨b7, 0, none⟩) level_Pairs_lit.length c6 level_Pairs_lit]) [0, 1, 2] (by decide) rfl
  refine go_seq ?_
  refine r_in ?_
  refine o_batch 0 [] [.p] [(16, .bool false)] [] trivial trivial (by kernel_rfl) (by kernel_rfl) (by kernel_rfl) ?_
  refine r_out (by kernel_rfl) ?_
  refine go_seq ?_
  refine go_else (by kernel_rfl) ?_
  refine go_exit rfl ?_
  refine go_inBlock ?_
  refine r_in ?_
  refine o_batch 0 [] [.p, .p, .p] [(7, .int .i64 8), (8, .int .i64 7), (2, .int .i64 7)] [] trivial trivial (by kernel_rfl) (by kernel_rfl) (by kernel_rfl) ?_
  refine r_out (by kernel_rfl) ?_
  refine go_again ?_
  refine go_gen [(0, .pointer (some ⟨b1, 0, none⟩)), (1, .pointer (some ⟨b2, 0, none⟩)), (2, .int .i64 7)] (by kernel_rfl) ?_
  intro _
  replace hI := hI.pick (L' := [.blk b1 42 [.int .u16 0, .int .u16 0, .int .u16 0, .int .u16 0, .int .u16 0, .int .u16 0, .int .u16 0, .int .u16 0, .int .u16 0], .blk b2 42 [.int .u16 0, .int .u16 0, .int .u16 0, .int .u16 0, .int .u16 0, .int .u16 0, .int .u16 0, .int .u16 0, .int .u16 256]]) [0, 1] (by decide) rfl
  refine go_seq ?_
  refine go_seq ?_
  refine r_in ?_
  refine o_batch 0 [] [.p, .p] [(5, .int .i64 7), (6, .bool true)] [] trivial trivial (by kernel_rfl) (by kernel_rfl) (by kernel_rfl) ?_
  refine r_out (by kernel_rfl) ?_
  refine go_then (by kernel_rfl) ?_
  refine go_skip ?_
  refine go_seq ?_
  refine go_block ?_
  refine go_seq ?_
  refine r_in ?_
  refine o_batch 0 [] [.p, .p, .x, .p] [(9, .int .i64 7), (10, .int .i64 7), (11, .int .u16 128), (12, .pointer (some ⟨b2, 7, none⟩))] [(7, far)] trivial ⟨(by decide), trivial⟩ (by kernel_rfl) (by kernel_rfl) (by kernel_rfl) ?_
  refine o_eff 4 _ rfl (by kernel_rfl) ?_
  refine e_store 41 _ _ 1 b2 42 [.int .u16 0, .int .u16 0, .int .u16 0, .int .u16 0, .int .u16 0, .int .u16 0, .int .u16 0, .int .u16 0, .int .u16 256] [.int .u16 0, .int .u16 0, .int .u16 0, .int .u16 0, .int .u16 0, .int .u16 0, .int .u16 0, .int .u16 128, .int .u16 256] 7 (.int .u16 128) rfl (by kernel_rfl) (by kernel_rfl) (by kernel_rfl) (by kernel_rfl) hI rfl (by kernel_rfl) (by kernel_rfl) ?_
  clear hI
  intro _ hI
  refine r_out (by kernel_rfl) ?_
  refine go_seq ?_
  refine r_in ?_
  replace H := bind_some H
  obtain ⟨y16, hy17, H⟩ := H
  have hyc : y16 = level_Pairs_lit := (Option.some.inj hy17).symm
  subst hyc
  refine o_eff 0 _ rfl (by kernel_rfl) ?_
  refine e_callf _ _ _ 14 #[] #[] #[] #[] rfl (by kernel_rfl) (by kernel_rfl) (by kernel_rfl) (enter14 _) (level_Pairs_calls (memOf _) _ (Inv.start _) _ hy17) ?_
  rintro _ _ ⟨A18, c19, rfl, hI'⟩
  replace hI := hI.call0 hI'
  clear hI'
  refine ⟨_, rfl, ?_⟩
  refine o_batch 1 [] [.p, .p] [(14, .int .i64 (level_Pairs_lit.length : Int)), (15, .int .i64 0)] [] trivial trivial (by kernel_rfl) (by kernel_rfl) (by kernel_rfl) ?_
  refine r_out (by kernel_rfl) ?_
  refine go_block ?_
  refine go_loop ?_
  refine go_seq ?_
  refine r_in ?_
  refine o_batch 0 [] [.p] [(16, .bool true)] [] trivial trivial (by kernel_rfl) (by kernel_rfl) (by kernel_rfl) ?_
  refine r_out (by kernel_rfl) ?_
  refine go_seq ?_
  refine go_then (by kernel_rfl) ?_
  refine go_skip ?_
  refine go_seq ?_
  refine go_block ?_
  refine go_seq ?_
  refine r_in ?_
  obtain ⟨b20, rfl⟩ := hI.rowAt 2 rfl (by decide : 0 ≤ (0 : Int) ∧ (0 : Int) < (level_Pairs_lit.length : Int))
  refine o_batch 0 [(b20, 0 + (0 : Int).toNat * 2, [.int .i64 1, .int .i64 2])] [.x, .l 0 0] [(17, .pointer (some ⟨b20, 0 + (0 : Int).toNat * 2, none⟩)), (18, .agg #[.int .i64 1, .int .i64 2])] [(0, level_Pairs_lit.length)] ⟨(rdS.flook (hI.row 2 rfl) (hI.rowlen 2 rfl) (by decide : 0 ≤ (0 : Int) ∧ (0 : Int) < (level_Pairs_lit.length : Int))).ok, trivial⟩ ⟨(by decide : 0 ≤ (0 : Int) ∧ (0 : Int) < (level_Pairs_lit.length : Int)), trivial⟩ (by kernel_rfl) (by kernel_rfl) (by kernel_rfl) ?_
  refine o_eff 2 _ rfl (by kernel_rfl) ?_
  refine e_alloc 32 (.agg #[.int .i64 0, .int .i64 0]) [.int .i64 0, .int .i64 0] rfl (by kernel_rfl) rfl hI ?_
  clear hI
  intro b21 _ hI
  refine o_eff 3 _ rfl (by kernel_rfl) ?_
  refine e_store 32 _ _ 3 b21 32 [.int .i64 0, .int .i64 0] [.int .i64 1, .int .i64 2] 0 (.agg #[.int .i64 1, .int .i64 2]) rfl (by kernel_rfl) (by kernel_rfl) (by kernel_rfl) (by kernel_rfl) hI rfl (by kernel_rfl) (by kernel_rfl) ?_
  clear hI
  intro _ hI
  refine r_out (by kernel_rfl) ?_
  refine go_seq ?_
  refine r_in ?_
  refine o_batch 0 [(b21, 0, [.int .i64 1, .int .i64 2])] [.p, .l 0 0, .p, .p] [(19, .pointer (some ⟨b21, 0, none⟩)), (20, .int .i64 1), (21, .int .i64 7), (22, .bool false)] [] ⟨(hI.grp 3 rfl), trivial⟩ trivial (by kernel_rfl) (by kernel_rfl) (by kernel_rfl) ?_
  refine r_out (by kernel_rfl) ?_
  refine go_else (by kernel_rfl) ?_
  refine go_skip ?_
  refine go_inBlock ?_
  refine r_in ?_
  refine o_batch 0 [] [.p, .p] [(32, .int .i64 1), (15, .int .i64 1)] [] trivial trivial (by kernel_rfl) (by kernel_rfl) (by kernel_rfl) ?_
  refine r_out (by kernel_rfl) ?_
  refine go_again ?_
  refine go_gen [(0, .pointer (some ⟨b1, 0, none⟩)), (1, .pointer (some ⟨b2, 0, none⟩)), (2, .int .i64 7), (13, .slice (some ⟨b20, 0, none⟩) level_Pairs_lit.length c19), (14, .int .i64 (level_Pairs_lit.length : Int)), (15, .int .i64 1)] (by kernel_rfl) ?_
  intro _
  replace hI := hI.pick (L' := [.blk b1 42 [.int .u16 0, .int .u16 0, .int .u16 0, .int .u16 0, .int .u16 0, .int .u16 0, .int .u16 0, .int .u16 0, .int .u16 0], .blk b2 42 [.int .u16 0, .int .u16 0, .int .u16 0, .int .u16 0, .int .u16 0, .int .u16 0, .int .u16 0, .int .u16 128, .int .u16 256], .row (Ty.flat 2 (fun x : Int × Int => [.int .i64 x.1, .int .i64 x.2]) (fun _ => rfl) (fun _ => oneAll rfl)) 32 (some ⟨b20, 0, none⟩) level_Pairs_lit.length c19 level_Pairs_lit]) [0, 1, 2] (by decide) rfl
  refine go_seq ?_
  refine r_in ?_
  refine o_batch 0 [] [.p] [(16, .bool true)] [] trivial trivial (by kernel_rfl) (by kernel_rfl) (by kernel_rfl) ?_
  refine r_out (by kernel_rfl) ?_
  refine go_seq ?_
  refine go_then (by kernel_rfl) ?_
  refine go_skip ?_
  refine go_seq ?_
  refine go_block ?_
  refine go_seq ?_
  refine r_in ?_
  refine o_batch 0 [(b20, 0 + (1 : Int).toNat * 2, [.int .i64 2, .int .i64 6])] [.x, .l 0 0] [(17, .pointer (some ⟨b20, 0 + (1 : Int).toNat * 2, none⟩)), (18, .agg #[.int .i64 2, .int .i64 6])] [(1, level_Pairs_lit.length)] ⟨(rdS.flook (hI.row 2 rfl) (hI.rowlen 2 rfl) (by decide : 0 ≤ (1 : Int) ∧ (1 : Int) < (level_Pairs_lit.length : Int))).ok, trivial⟩ ⟨(by decide : 0 ≤ (1 : Int) ∧ (1 : Int) < (level_Pairs_lit.length : Int)), trivial⟩ (by kernel_rfl) (by kernel_rfl) (by kernel_rfl) ?_
  refine o_eff 2 _ rfl (by kernel_rfl) ?_
  refine e_alloc 32 (.agg #[.int .i64 0, .int .i64 0]) [.int .i64 0, .int .i64 0] rfl (by kernel_rfl) rfl hI ?_
  clear hI
  intro b22 _ hI
  refine o_eff 3 _ rfl (by kernel_rfl) ?_
  refine e_store 32 _ _ 3 b22 32 [.int .i64 0, .int .i64 0] [.int .i64 2, .int .i64 6] 0 (.agg #[.int .i64 2, .int .i64 6]) rfl (by kernel_rfl) (by kernel_rfl) (by kernel_rfl) (by kernel_rfl) hI rfl (by kernel_rfl) (by kernel_rfl) ?_
  clear hI
  intro _ hI
  refine r_out (by kernel_rfl) ?_
  refine go_seq ?_
  refine r_in ?_
  refine o_batch 0 [(b22, 0, [.int .i64 2, .int .i64 6])] [.p, .l 0 0, .p, .p] [(19, .pointer (some ⟨b22, 0, none⟩)), (20, .int .i64 2), (21, .int .i64 7), (22, .bool false)] [] ⟨(hI.grp 3 rfl), trivial⟩ trivial (by kernel_rfl) (by kernel_rfl) (by kernel_rfl) ?_
  refine r_out (by kernel_rfl) ?_
  refine go_else (by kernel_rfl) ?_
  refine go_skip ?_
  refine go_inBlock ?_
  refine r_in ?_
  refine o_batch 0 [] [.p, .p] [(32, .int .i64 2), (15, .int .i64 2)] [] trivial trivial (by kernel_rfl) (by kernel_rfl) (by kernel_rfl) ?_
  refine r_out (by kernel_rfl) ?_
  refine go_again ?_
  refine go_gen [(0, .pointer (some ⟨b1, 0, none⟩)), (1, .pointer (some ⟨b2, 0, none⟩)), (2, .int .i64 7), (13, .slice (some ⟨b20, 0, none⟩) level_Pairs_lit.length c19), (14, .int .i64 (level_Pairs_lit.length : Int)), (15, .int .i64 2)] (by kernel_rfl) ?_
  intro _
  replace hI := hI.pick (L' := [.blk b1 42 [.int .u16 0, .int .u16 0, .int .u16 0, .int .u16 0, .int .u16 0, .int .u16 0, .int .u16 0, .int .u16 0, .int .u16 0], .blk b2 42 [.int .u16 0, .int .u16 0, .int .u16 0, .int .u16 0, .int .u16 0, .int .u16 0, .int .u16 0, .int .u16 128, .int .u16 256], .row (Ty.flat 2 (fun x : Int × Int => [.int .i64 x.1, .int .i64 x.2]) (fun _ => rfl) (fun _ => oneAll rfl)) 32 (some ⟨b20, 0, none⟩) level_Pairs_lit.length c19 level_Pairs_lit]) [0, 1, 2] (by decide) rfl
  refine go_seq ?_
  refine r_in ?_
  refine o_batch 0 [] [.p] [(16, .bool true)] [] trivial trivial (by kernel_rfl) (by kernel_rfl) (by kernel_rfl) ?_
  refine r_out (by kernel_rfl) ?_
  refine go_seq ?_
  refine go_then (by kernel_rfl) ?_
  refine go_skip ?_
  refine go_seq ?_
  refine go_block ?_
  refine go_seq ?_
  refine r_in ?_
  refine o_batch 0 [(b20, 0 + (2 : Int).toNat * 2, [.int .i64 1, .int .i64 3])] [.x, .l 0 0] [(17, .pointer (some ⟨b20, 0 + (2 : Int).toNat * 2, none⟩)), (18, .agg #[.int .i64 1, .int .i64 3])] [(2, level_Pairs_lit.length)] ⟨(rdS.flook (hI.row 2 rfl) (hI.rowlen 2 rfl) (by decide : 0 ≤ (2 : Int) ∧ (2 : Int) < (level_Pairs_lit.length : Int))).ok, trivial⟩ ⟨(by decide : 0 ≤ (2 : Int) ∧ (2 : Int) < (level_Pairs_lit.length : Int)), trivial⟩ (by kernel_rfl) (by kernel_rfl) (by kernel_rfl) ?_
  refine o_eff 2 _ rfl (by kernel_rfl) ?_
  refine e_alloc 32 (.agg #[.int .i64 0, .int .i64 0]) [.int .i64 0, .int .i64 0] rfl (by kernel_rfl) rfl hI ?_
  clear hI
  intro b23 _ hI
  refine o_eff 3 _ rfl (by kernel_rfl) ?_
  refine e_store 32 _ _ 3 b23 32 [.int .i64 0, .int .i64 0] [.int .i64 1, .int .i64 3] 0 (.agg #[.int .i64 1, .int .i64 3]) rfl (by kernel_rfl) (by kernel_rfl) (by kernel_rfl) (by kernel_rfl) hI rfl (by kernel_rfl) (by kernel_rfl) ?_
  clear hI
  intro _ hI
  refine r_out (by kernel_rfl) ?_
  refine go_seq ?_
  refine r_in ?_
  refine o_batch 0 [(b23, 0, [.int .i64 1, .int .i64 3])] [.p, .l 0 0, .p, .p] [(19, .pointer (some ⟨b23, 0, none⟩)), (20, .int .i64 1), (21, .int .i64 7), (22, .bool false)] [] ⟨(hI.grp 3 rfl), trivial⟩ trivial (by kernel_rfl) (by kernel_rfl) (by kernel_rfl) ?_
  refine r_out (by kernel_rfl) ?_
  refine go_else (by kernel_rfl) ?_
  refine go_skip ?_
  refine go_inBlock ?_
  refine r_in ?_
  refine o_batch 0 [] [.p, .p] [(32, .int .i64 3), (15, .int .i64 3)] [] trivial trivial (by kernel_rfl) (by kernel_rfl) (by kernel_rfl) ?_
  refine r_out (by kernel_rfl) ?_
  refine go_again ?_
  refine go_gen [(0, .pointer (some ⟨b1, 0, none⟩)), (1, .pointer (some ⟨b2, 0, none⟩)), (2, .int .i64 7), (13, .slice (some ⟨b20, 0, none⟩) level_Pairs_lit.length c19), (14, .int .i64 (level_Pairs_lit.length : Int)), (15, .int .i64 3)] (by kernel_rfl) ?_
  intro _
  replace hI := hI.pick (L' := [.blk b1 42 [.int .u16 0, .int .u16 0, .int .u16 0, .int .u16 0, .int .u16 0, .int .u16 0, .int .u16 0, .int .u16 0, .int .u16 0], .blk b2 42 [.int .u16 0, .int .u16 0, .int .u16 0, .int .u16 0, .int .u16 0, .int .u16 0, .int .u16 0, .int .u16 128, .int .u16 256], .row (Ty.flat 2 (fun x : Int × Int => [.int .i64 x.1, .int .i64 x.2]) (fun _ => rfl) (fun _ => oneAll rfl)) 32 (some ⟨b20, 0, none⟩) level_Pairs_lit.length c19 level_Pairs_lit]) [0, 1, 2] (by decide) rfl
  refine go_seq ?_
  refine r_in ?_
  refine o_batch 0 [] [.p] [(16, .bool true)] [] trivial trivial (by kernel_rfl) (by kernel_rfl) (by kernel_rfl) ?_
  refine r_out (by kernel_rfl) ?_
  refine go_seq ?_
  refine go_then (by kernel_rfl) ?_
  refine go_skip ?_
  refine go_seq ?_
  refine go_block ?_
  refine go_seq ?_
  refine r_in ?_
  refine o_batch 0 [(b20, 0 + (3 : Int).toNat * 2, [.int .i64 3, .int .i64 4])] [.x, .l 0 0] [(17, .pointer (some ⟨b20, 0 + (3 : Int).toNat * 2, none⟩)), (18, .agg #[.int .i64 3, .int .i64 4])] [(3, level_Pairs_lit.length)] ⟨(rdS.flook (hI.row 2 rfl) (hI.rowlen 2 rfl) (by decide : 0 ≤ (3 : Int) ∧ (3 : Int) < (level_Pairs_lit.length : Int))).ok, trivial⟩ ⟨(by decide : 0 ≤ (3 : Int) ∧ (3 : Int) < (level_Pairs_lit.length : Int)), trivial⟩ (by kernel_rfl) (by kernel_rfl) (by kernel_rfl) ?_
  refine o_eff 2 _ rfl (by kernel_rfl) ?_
  refine e_alloc 32 (.agg #[.int .i64 0, .int .i64 0]) [.int .i64 0, .int .i64 0] rfl (by kernel_rfl) rfl hI ?_
  clear hI
  intro b24 _ hI
  refine o_eff 3 _ rfl (by kernel_rfl) ?_
  refine e_store 32 _ _ 3 b24 32 [.int .i64 0, .int .i64 0] [.int .i64 3, .int .i64 4] 0 (.agg #[.int .i64 3, .int .i64 4]) rfl (by kernel_rfl) (by kernel_rfl) (by kernel_rfl) (by kernel_rfl) hI rfl (by kernel_rfl) (by kernel_rfl) ?_
  clear hI
  intro _ hI
  refine r_out (by kernel_rfl) ?_
  refine go_seq ?_
  refine r_in ?_
  refine o_batch 0 [(b24, 0, [.int .i64 3, .int .i64 4])] [.p, .l 0 0, .p, .p] [(19, .pointer (some ⟨b24, 0, none⟩)), (20, .int .i64 3), (21, .int .i64 7), (22, .bool false)] [] ⟨(hI.grp 3 rfl), trivial⟩ trivial (by kernel_rfl) (by kernel_rfl) (by kernel_rfl) ?_
  refine r_out (by kernel_rfl) ?_
  refine go_else (by kernel_rfl) ?_
  refine go_skip ?_
  refine go_inBlock ?_
  refine r_in ?_
  refine o_batch 0 [] [.p, .p] [(32, .int .i64 4), (15, .int .i64 4)] [] trivial trivial (by kernel_rfl) (by kernel_rfl) (by kernel_rfl) ?_
  refine r_out (by kernel_rfl) ?_
  refine go_again ?_
  refine go_gen [(0, .pointer (some ⟨b1, 0, none⟩)), (1, .pointer (some ⟨b2, 0, none⟩)), (2, .int .i64 7), (13, .slice (some ⟨b20, 0, none⟩) level_Pairs_lit.length c19), (14, .int .i64 (level_Pairs_lit.length : Int)), (15, .int .i64 4)] (by kernel_rfl) ?_
  intro _
  replace hI := hI.pick (L' := [.blk b1 42 [.int .u16 0, .int .u16 0, .int .u16 0, .int .u16 0, .int .u16 0, .int .u16 0, .int .u16 0, .int .u16 0, .int .u16 0], .blk b2 42 [.int .u16 0, .int .u16 0, .int .u16 0, .int .u16 0, .int .u16 0, .int .u16 0, .int .u16 0, .int .u16 128, .int .u16 256], .row (Ty.flat 2 (fun x : Int × Int => [.int .i64 x.1, .int .i64 x.2]) (fun _ => rfl) (fun _ => oneAll rfl)) 32 (some ⟨b20, 0, none⟩) level_Pairs_lit.length c19 level_Pairs_lit]) [0, 1, 2] (by decide) rfl
  refine go_seq ?_
  refine r_in ?_
  refine o_batch 0 [] [.p] [(16, .bool true)] [] trivial trivial (by kernel_rfl) (by kernel_rfl) (by kernel_rfl) ?_
  refine r_out (by kernel_rfl) ?_
  refine go_seq ?_
  refine go_then (by kernel_rfl) ?_
  refine go_skip ?_
  refine go_seq ?_
  refine go_block ?_
  refine go_seq ?_
  refine r_in ?_
  refine o_batch 0 [(b20, 0 + (4 : Int).toNat * 2, [.int .i64 4, .int .i64 5])] [.x, .l 0 0] [(17, .pointer (some ⟨b20, 0 + (4 : Int).toNat * 2, none⟩)), (18, .agg #[.int .i64 4, .int .i64 5])] [(4, level_Pairs_lit.length)] ⟨(rdS.flook (hI.row 2 rfl) (hI.rowlen 2 rfl) (by decide : 0 ≤ (4 : Int) ∧ (4 : Int) < (level_Pairs_lit.length : Int))).ok, trivial⟩ ⟨(by decide : 0 ≤ (4 : Int) ∧ (4 : Int) < (level_Pairs_lit.length : Int)), trivial⟩ (by kernel_rfl) (by kernel_rfl) (by kernel_rfl) ?_
  refine o_eff 2 _ rfl (by kernel_rfl) ?_
  refine e_alloc 32 (.agg #[.int .i64 0, .int .i64 0]) [.int .i64 0, .int .i64 0] rfl (by kernel_rfl) rfl hI ?_
  clear hI
  intro b25 _ hI
  refine o_eff 3 _ rfl (by kernel_rfl) ?_
  refine e_store 32 _ _ 3 b25 32 [.int .i64 0, .int .i64 0] [.int .i64 4, .int .i64 5] 0 (.agg #[.int .i64 4, .int .i64 5]) rfl (by kernel_rfl) (by kernel_rfl) (by kernel_rfl) (by kernel_rfl) hI rfl (by kernel_rfl) (by kernel_rfl) ?_
  clear hI
  intro _ hI
  refine r_out (by kernel_rfl) ?_
  refine go_seq ?_
  refine r_in ?_
  refine o_batch 0 [(b25, 0, [.int .i64 4, .int .i64 5])] [.p, .l 0 0, .p, .p] [(19, .pointer (some ⟨b25, 0, none⟩)), (20, .int .i64 4), (21, .int .i64 7), (22, .bool false)] [] ⟨(hI.grp 3 rfl), trivial⟩ trivial (by kernel_rfl) (by kernel_rfl) (by kernel_rfl) ?_
  refine r_out (by kernel_rfl) ?_
  refine go_else (by kernel_rfl) ?_
  refine go_skip ?_
  refine go_inBlock ?_
  refine r_in ?_
  refine o_batch 0 [] [.p, .p] [(32, .int .i64 5), (15, .int .i64 5)] [] trivial trivial (by kernel_rfl) (by kernel_rfl) (by kernel_rfl) ?_
  refine r_out (by kernel_rfl) ?_
  refine go_again ?_
  refine go_gen [(0, .pointer (some ⟨b1, 0, none⟩)), (1, .pointer (some ⟨b2, 0, none⟩)), (2, .int .i64 7), (13, .slice (some ⟨b20, 0, none⟩) level_Pairs_lit.length c19), (14, .int .i64 (level_Pairs_lit.length : Int)), (15, .int .i64 5)] (by kernel_rfl) ?_
  intro _
  replace hI := hI.pick (L' := [.blk b1 42 [.int .u16 0, .int .u16 0, .int .u16 0, .int .u16 0, .int .u16 0, .int .u16 0, .int .u16 0, .int .u16 0, .int .u16 0], .blk b2 42 [.int .u16 0, .int .u16 0, .int .u16 0, .int .u16 0, .int .u16 0, .int .u16 0, .int .u16 0, .int .u16 128, .int .u16 256], .row (Ty.flat 2 (fun x : Int × Int => [.int .i64 x.1, .int .i64 x.2]) (fun _ => rfl) (fun _ => oneAll rfl)) 32 (some ⟨b20, 0, none⟩) level_Pairs_lit.length c19 level_Pairs_lit]) [0, 1, 2] (by decide) rfl
  refine go_seq ?_
  refine r_in ?_
  refine o_batch 0 [] [.p] [(16, .bool true)] [] trivial trivial (by kernel_rfl) (by kernel_rfl) (by kernel_rfl) ?_
  refine r_out (by kernel_rfl) ?_
  refine go_seq ?_
  refine go_then (by kernel_rfl) ?_
  refine go_skip ?_
  refine go_seq ?_
  refine go_block ?_
  refine go_seq ?_
  refine r_in ?_
  refine o_batch 0 [(b20, 0 + (5 : Int).toNat * 2, [.int .i64 5, .int .i64 6])] [.x, .l 0 0] [(17, .pointer (some ⟨b20, 0 + (5 : Int).toNat * 2, none⟩)), (18, .agg #[.int .i64 5, .int .i64 6])] [(5, level_Pairs_lit.length)] ⟨(rdS.flook (hI.row 2 rfl) (hI.rowlen 2 rfl) (by decide : 0 ≤ (5 : Int) ∧ (5 : Int) < (level_Pairs_lit.length : Int))).ok, trivial⟩ ⟨(by decide : 0 ≤ (5 : Int) ∧ (5 : Int) < (level_Pairs_lit.length : Int)), trivial⟩ (by kernel_rfl) (by kernel_rfl) (by kernel_rfl) ?_
  refine o_eff 2 _ rfl (by kernel_rfl) ?_
  refine e_alloc 32 (.agg #[.int .i64 0, .int .i64 0]) [.int .i64 0, .int .i64 0] rfl (by kernel_rfl) rfl hI ?_
  clear hI
  intro b26 _ hI
  refine o_eff 3 _ rfl (by kernel_rfl) ?_
  refine e_store 32 _ _ 3 b26 32 [.int .i64 0, .int .i64 0] [.int .i64 5, .int .i64 6] 0 (.agg #[.int .i64 5, .int .i64 6]) rfl (by kernel_rfl) (by kernel_rfl) (by kernel_rfl) (by kernel_rfl) hI rfl (by kernel_rfl) (by kernel_rfl) ?_
  clear hI
  intro _ hI
  refine r_out (by kernel_rfl) ?_
  refine go_seq ?_
  refine r_in ?_
  refine o_batch 0 [(b26, 0, [.int .i64 5, .int .i64 6])] [.p, .l 0 0, .p, .p] [(19, .pointer (some ⟨b26, 0, none⟩)), (20, .int .i64 5), (21, .int .i64 7), (22, .bool false)] [] ⟨(hI.grp 3 rfl), trivial⟩ trivial (by kernel_rfl) (by kernel_rfl) (by kernel_rfl) ?_
  refine r_out (by kernel_rfl) ?_
  refine go_else (by kernel_rfl) ?_
  refine go_skip ?_
  refine go_inBlock ?_
  refine r_in ?_
  refine o_batch 0 [] [.p, .p] [(32, .int .i64 6), (15, .int .i64 6)] [] trivial trivial (by kernel_rfl) (by kernel_rfl) (by kernel_rfl) ?_
  refine r_out (by kernel_rfl) ?_
  refine go_again ?_
  refine go_gen [(0, .pointer (some ⟨b1, 0, none⟩)), (1, .pointer (some ⟨b2, 0, none⟩)), (2, .int .i64 7), (13, .slice (some ⟨b20, 0, none⟩) level_Pairs_lit.length c19), (14, .int .i64 (level_Pairs_lit.length : Int)), (15, .int .i64 6)] (by kernel_rfl) ?_
  intro _
  replace hI := hI.pick (L' := [.blk b1 42 [.int .u16 0, .int .u16 0, .int .u16 0, .int .u16 0, .int .u16 0, .int .u16 0, .int .u16 0, .int .u16 0, .int .u16 0], .blk b2 42 [.int .u16 0, .int .u16 0, .int .u16 0, .int .u16 0, .int .u16 0, .int .u16 0, .int .u16 0, .int .u16 128, .int .u16 256], .row (Ty.flat 2 (fun x : Int × Int => [.int .i64 x.1, .int .i64 x.2]) (fun _ => rfl) (fun _ => oneAll rfl)) 32 (some ⟨b20, 0, none⟩) level_Pairs_lit.length c19 level_Pairs_lit]) [0, 1, 2] (by decide) rfl
  refine go_seq ?_
  refine r_in ?_
  refine o_batch 0 [] [.p] [(16, .bool true)] [] trivial trivial (by kernel_rfl) (by kernel_rfl) (by kernel_rfl) ?_
  refine r_out (by kernel_rfl) ?_
  refine go_seq ?_
  refine go_then (by kernel_rfl) ?_
  refine go_skip ?_
  refine go_seq ?_
  refine go_block ?_
  refine go_seq ?_
  refine r_in ?_
  refine o_batch 0 [(b20, 0 + (6 : Int).toNat * 2, [.int .i64 6, .int .i64 7])] [.x, .l 0 0] [(17, .pointer (some ⟨b20, 0 + (6 : Int).toNat * 2, none⟩)), (18, .agg #[.int .i64 6, .int .i64 7])] [(6, level_Pairs_lit.length)] ⟨(rdS.flook (hI.row 2 rfl) (hI.rowlen 2 rfl) (by decide : 0 ≤ (6 : Int) ∧ (6 : Int) < (level_Pairs_lit.length : Int))).ok, trivial⟩ ⟨(by decide : 0 ≤ (6 : Int) ∧ (6 : Int) < (level_Pairs_lit.length : Int)), trivial⟩ (by kernel_rfl) (by kernel_rfl) (by kernel_rfl) ?_
  refine o_eff 2 _ rfl (by kernel_rfl) ?_
  refine e_alloc 32 (.agg #[.int .i64 0, .int .i64 0]) [.int .i64 0, .int .i64 0] rfl (by kernel_rfl) rfl hI ?_
  clear hI
  intro b27 _ hI
  refine o_eff 3 _ rfl (by kernel_rfl) ?_
  refine e_store 32 _ _ 3 b27 32 [.int .i64 0, .int .i64 0] [.int .i64 6, .int .i64 7] 0 (.agg #[.int .i64 6, .int .i64 7]) rfl (by kernel_rfl) (by kernel_rfl) (by kernel_rfl) (by kernel_rfl) hI rfl (by kernel_rfl) (by kernel_rfl) ?_
  clear hI
  intro _ hI
  refine r_out (by kernel_rfl) ?_
  refine go_seq ?_
  refine r_in ?_
  refine o_batch 0 [(b27, 0, [.int .i64 6, .int .i64 7])] [.p, .l 0 0, .p, .p] [(19, .pointer (some ⟨b27, 0, none⟩)), (20, .int .i64 6), (21, .int .i64 7), (22, .bool false)] [] ⟨(hI.grp 3 rfl), trivial⟩ trivial (by kernel_rfl) (by kernel_rfl) (by kernel_rfl) ?_
  refine r_out (by kernel_rfl) ?_
  refine go_else (by kernel_rfl) ?_
  refine go_skip ?_
  refine go_inBlock ?_
  refine r_in ?_
  refine o_batch 0 [] [.p, .p] [(32, .int .i64 7), (15, .int .i64 7)] [] trivial trivial (by kernel_rfl) (by kernel_rfl) (by kernel_rfl) ?_
  refine r_out (by kernel_rfl) ?_
  refine go_again ?_
  refine go_gen [(0, .pointer (some ⟨b1, 0, none⟩)), (1, .pointer (some ⟨b2, 0, none⟩)), (2, .int .i64 7), (13, .slice (some ⟨b20, 0, none⟩) level_Pairs_lit.length c19), (14, .int .i64 (level_Pairs_lit.length : Int)), (15, .int .i64 7)] (by kernel_rfl) ?_
  intro _
  replace hI := hI.pick (L' := [.blk b1 42 [.int .u16 0, .int .u16 0, .int .u16 0, .int .u16 0, .int .u16 0, .int .u16 0, .int .u16 0, .int .u16 0, .int .u16 0], .blk b2 42 [.int .u16 0, .int .u16 0, .int .u16 0, .int .u16 0, .int .u16 0, .int .u16 0, .int .u16 0, .int .u16 128, .int .u16 256], .row (Ty.flat 2 (fun x : Int × Int => [.int .i64 x.1, .int .i64 x.2]) (fun _ => rfl) (fun _ => oneAll rfl)) 32 (some ⟨b20, 0, none⟩) level_Pairs_lit.length c19 level_Pairs_lit]) [0, 1, 2] (by decide) rfl
  refine go_seq ?_
  refine r_in ?_
  refine o_batch 0 [] [.p] [(16, .bool true)] [] trivial trivial (by kernel_rfl) (by kernel_rfl) (by kernel_rfl) ?_
  refine r_out (by kernel_rfl) ?_
  refine go_seq ?_
  refine go_then (by kernel_rfl) ?_
  refine go_skip ?_
  refine go_seq ?_
  refine go_block ?_
  refine go_seq ?_
  refine r_in ?_
  refine o_batch 0 [(b20, 0 + (7 : Int).toNat * 2, [.int .i64 7, .int .i64 8])] [.x, .l 0 0] [(17, .pointer (some ⟨b20, 0 + (7 : Int).toNat * 2, none⟩)), (18, .agg #[.int .i64 7, .int .i64 8])] [(7, level_Pairs_lit.length)] ⟨(rdS.flook (hI.row 2 rfl) (hI.rowlen 2 rfl) (by decide : 0 ≤ (7 : Int) ∧ (7 : Int) < (level_Pairs_lit.length : Int))).ok, trivial⟩ ⟨(by decide : 0 ≤ (7 : Int) ∧ (7 : Int) < (level_Pairs_lit.length : Int)), trivial⟩ (by kernel_rfl) (by kernel_rfl) (by kernel_rfl) ?_
  refine o_eff 2 _ rfl (by kernel_rfl) ?_
  refine e_alloc 32 (.agg #[.int .i64 0, .int .i64 0]) [.int .i64 0, .int .i64 0] rfl (by kernel_rfl) rfl hI ?_
  clear hI
  intro b28 _ hI
  refine o_eff 3 _ rfl (by kernel_rfl) ?_
  refine e_store 32 _ _ 3 b28 32 [.int .i64 0, .int .i64 0] [.int .i64 7, .int .i64 8] 0 (.agg #[.int .i64 7, .int .i64 8]) rfl (by kernel_rfl) (by kernel_rfl) (by kernel_rfl) (by kernel_rfl) hI rfl (by kernel_rfl) (by kernel_rfl) ?_
  clear hI
  intro _ hI
  refine r_out (by kernel_rfl) ?_
  refine go_seq ?_
  refine r_in ?_
  refine o_batch 0 [(b28, 0, [.int .i64 7, .int .i64 8])] [.p, .l 0 0, .p, .p] [(19, .pointer (some ⟨b28, 0, none⟩)), (20, .int .i64 7), (21, .int .i64 7), (22, .bool true)] [] ⟨(hI.grp 3 rfl), trivial⟩ trivial (by kernel_rfl) (by kernel_rfl) (by kernel_rfl) ?_
  refine r_out (by kernel_rfl) ?_
  refine go_then (by kernel_rfl) ?_
  refine d_tail' 9 _ [(b2, 0, [.int .u16 0, .int .u16 0, .int .u16 0, .int .u16 0, .int .u16 0, .int .u16 0, .int .u16 0, .int .u16 128, .int .u16 256]), (b28, 0, [.int .i64 7, .int .i64 8])] [.p, .p, .l 0 7, .p, .l 1 1, .p, .l 0 8, .p, .p] [(23, .int .i64 7), (24, .pointer (some ⟨b2, 7, none⟩)), (25, .int .u16 128), (26, .pointer (some ⟨b28, 1, none⟩)), (27, .int .i64 8), (28, .pointer (some ⟨b2, 8, none⟩)), (29, .int .u16 256), (30, .int .u16 384), (31, .pointer (some ⟨b2, 7, none⟩))] [] (by kernel_rfl) (by kernel_rfl) rfl rfl ⟨(hI.grp 1 rfl), (hI.grp 3 rfl), trivial⟩ trivial (by kernel_rfl) (by kernel_rfl) (by kernel_rfl) (by kernel_rfl) hI ?_
  clear hI
  intro _ hI hsame
  refine e_store 41 _ _ 1 b2 42 [.int .u16 0, .int .u16 0, .int .u16 0, .int .u16 0, .int .u16 0, .int .u16 0, .int .u16 0, .int .u16 128, .int .u16 256] [.int .u16 0, .int .u16 0, .int .u16 0, .int .u16 0, .int .u16 0, .int .u16 0, .int .u16 0, .int .u16 384, .int .u16 256] 7 (.int .u16 384) rfl (by kernel_rfl) (by kernel_rfl) (by kernel_rfl) (by kernel_rfl) hI rfl (by kernel_rfl) (by kernel_rfl) ?_
  clear hI
  intro _ hI
  refine go_inBlock ?_
  refine r_in ?_
  refine o_batch 0 [] [.p, .p] [(32, .int .i64 8), (15, .int .i64 8)] [] trivial trivial (by kernel_rfl) (by kernel_rfl) (by kernel_rfl) ?_
  refine r_out (by kernel_rfl) ?_
  refine go_again ?_
  refine go_gen [(0, .pointer (some ⟨b1, 0, none⟩)), (1, .pointer (some ⟨b2, 0, none⟩)), (2, .int .i64 7), (13, .slice (some ⟨b20, 0, none⟩) level_Pairs_lit.length c19), (14, .int .i64 (level_Pairs_lit.length : Int)), (15, .int .i64 8)] (by kernel_rfl) ?_
  intro _
  replace hI := hI.pick (L' := [.blk b1 42 [.int .u16 0, .int .u16 0, .int .u16 0, .int .u16 0, .int .u16 0, .int .u16 0, .int .u16 0, .int .u16 0, .int .u16 0], .blk b2 42 [.int .u16 0, .int .u16 0, .int .u16 0, .int .u16 0, .int .u16 0, .int .u16 0, .int .u16 0, .int .u16 384, .int .u16 256], .row (Ty.flat 2 (fun x : Int × Int => [.int .i64 x.1, .int .i64 x.2]) (fun _ => rfl) (fun _ => oneAll rfl)) 32 (some ⟨b20, 0, none⟩) level_Pairs_lit.length c19 level_Pairs_lit]) [0, 1, 2] (by decide) rfl
  refine go_seq ?_
  refine r_in ?_
  refine o_batch 0 [] [.p] [(16, .bool false)] [] trivial trivial (by kernel_rfl) (by kernel_rfl) (by kernel_rfl) ?_
  refine r_out (by kernel_rfl) ?_
  refine go_seq ?_
  refine go_else (by kernel_rfl) ?_
  refine go_exit rfl ?_
  refine go_inBlock ?_
  refine r_in ?_
  refine o_batch 0 [] [.p, .p, .p] [(7, .int .i64 7), (8, .int .i64 6), (2, .int .i64 6)] [] trivial trivial (by kernel_rfl) (by kernel_rfl) (by kernel_rfl) ?_
  refine r_out (by kernel_rfl) ?_
  refine go_again ?_
  refine go_gen [(0, .pointer (some ⟨b1, 0, none⟩)), (1, .pointer (some ⟨b2, 0, none⟩)), (2, .int .i64 6)] (by kernel_rfl) ?_
  intro _
  replace hI := hI.pick (L' := [.blk b1 42 [.int .u16 0, .int .u16 0, .int .u16 0, .int .u16 0, .int .u16 0, .int .u16 0, .int .u16 0, .int .u16 0, .int .u16 0], .blk b2 42 [.int .u16 0, .int .u16 0, .int .u16 0, .int .u16 0, .int .u16 0, .int .u16 0, .int .u16 0, .int .u16 384, .int .u16 256]]) [0, 1] (by decide) rfl
  refine go_seq ?_
  refine go_seq ?_
  refine r_in ?_
  refine o_batch 0 [] [.p, .p] [(5, .int .i64 6), (6, .bool true)] [] trivial trivial (by kernel_rfl) (by kernel_rfl) (by kernel_rfl) ?_
  refine r_out (by kernel_rfl) ?_
  refine go_then (by kernel_rfl) ?_
  refine go_skip ?_
  refine go_seq ?_
  refine go_block ?_
  refine go_seq ?_
  refine r_in ?_
  refine o_batch 0 [] [.p, .p, .x, .p] [(9, .int .i64 6), (10, .int .i64 6), (11, .int .u16 64), (12, .pointer (some ⟨b2, 6, none⟩))] [(6, far)] trivial ⟨(by decide), trivial⟩ (by kernel_rfl) (by kernel_rfl) (by kernel_rfl) ?_
  refine o_eff 4 _ rfl (by kernel_rfl) ?_
  refine e_store 41 _ _ 1 b2 42 [.int .u16 0, .int .u16 0, .int .u16 0, .int .u16 0, .int .u16 0, .int .u16 0, .int .u16 0, .int .u16 384, .int .u16 256] [.int .u16 0, .int .u16 0, .int .u16 0, .int .u16 0, .int .u16 0, .int .u16 0, .int .u16 64, .int .u16 384, .int .u16 256] 6 (.int .u16 64) rfl (by kernel_rfl) (by kernel_rfl) (by kernel_rfl) (by kernel_rfl) hI rfl (by kernel_rfl) (by kernel_rfl) ?_
  clear hI
  intro _ hI
  refine r_out (by kernel_rfl) ?_
  refine go_seq ?_
  refine r_in ?_
  replace H := bind_some H
  obtain ⟨y29, hy30, H⟩ := H
  have hyc : y29 = level_Pairs_lit := (Option.some.inj hy30).symm
  subst hyc
  refine o_eff 0 _ rfl (by kernel_rfl) ?_
  refine e_callf _ _ _ 14 #[] #[] #[] #[] rfl (by kernel_rfl) (by kernel_rfl) (by kernel_rfl) (enter14 _) (level_Pairs_calls (memOf _) _ (Inv.start _) _ hy30) ?_
  rintro _ _ ⟨A31, c32, rfl, hI'⟩
  replace hI := hI.call0 hI'
  clear hI'
  refine ⟨_, rfl, ?_⟩
  refine o_batch 1 [] [.p, .p] [(14, .int .i64 (level_Pairs_lit.length : Int)), (15, .int .i64 0)] [] trivial trivial (by kernel_rfl) (by kernel_rfl) (by kernel_rfl) ?_
  refine r_out (by kernel_rfl) ?_
  refine go_block ?_
  refine go_loop ?_
  refine go_seq ?_
  refine r_in ?_
  refine o_batch 0 [] [.p] [(16, .bool true)] [] trivial trivial (by kernel_rfl) (by kernel_rfl) (by kernel_rfl) ?_
  refine r_out (by kernel_rfl) ?_
  refine go_seq ?_
  refine go_then (by kernel_rfl) ?_
  refine go_skip ?_
  refine go_seq ?_
  refine go_block ?_
  refine go_seq ?_
  refine r_in ?_
  obtain ⟨b33, rfl⟩ := hI.rowAt 2 rfl (by decide : 0 ≤ (0 : Int) ∧ (0 : Int) < (level_Pairs_lit.length : Int))
  refine o_batch 0 [(b33, 0 + (0 : Int).toNat * 2, [.int .i64 1, .int .i64 2])] [.x, .l 0 0] [(17, .pointer (some ⟨b33, 0 + (0 : Int).toNat * 2, none⟩)), (18, .agg #[.int .i64 1, .int .i64 2])] [(0, level_Pairs_lit.length)] ⟨(rdS.flook (hI.row 2 rfl) (hI.rowlen 2 rfl) (by decide : 0 ≤ (0 : Int) ∧ (0 : Int) < (level_Pairs_lit.length : Int))).ok, trivial⟩ ⟨(by decide : 0 ≤ (0 : Int) ∧ (0 : Int) < (level_Pairs_lit.length : Int)), trivial⟩ (by kernel_rfl) (by kernel_rfl) (by kernel_rfl) ?_
  refine o_eff 2 _ rfl (by kernel_rfl) ?_
  refine e_alloc 32 (.agg #[.int .i64 0, .int .i64 0]) [.int .i64 0, .int .i64 0] rfl (by kernel_rfl) rfl hI ?_
  clear hI
  intro b34 _ hI
  refine o_eff 3 _ rfl (by kernel_rfl) ?_
  refine e_store 32 _ _ 3 b34 32 [.int .i64 0, .int .i64 0] [.int .i64 1, .int .i64 2] 0 (.agg #[.int .i64 1, .int .i64 2]) rfl (by kernel_rfl) (by kernel_rfl) (by kernel_rfl) (by kernel_rfl) hI rfl (by kernel_rfl) (by kernel_rfl) ?_
  clear hI
  intro _ hI
  refine r_out (by kernel_rfl) ?_
  refine go_seq ?_
  refine r_in ?_
  refine o_batch 0 [(b34, 0, [.int .i64 1, .int .i64 2])] [.p, .l 0 0, .p, .p] [(19, .pointer (some ⟨b34, 0, none⟩)), (20, .int .i64 1), (21, .int .i64 6), (22, .bool false)] [] ⟨(hI.grp 3 rfl), trivial⟩ trivial (by kernel_rfl) (by kernel_rfl) (by kernel_rfl) ?_
  refine r_out (by kernel_rfl) ?_
  refine go_else (by kernel_rfl) ?_
  refine go_skip ?_
  refine go_inBlock ?_
  refine r_in ?_
  refine o_batch 0 [] [.p, .p] [(32, .int .i64 1), (15, .int .i64 1)] [] trivial trivial (by kernel_rfl) (by kernel_rfl) (by kernel_rfl) ?_
  refine r_out (by kernel_rfl) ?_
  refine go_again ?_
  refine go_gen [(0, .pointer (some ⟨b1, 0, none⟩)), (1, .pointer (some ⟨b2, 0, none⟩)), (2, .int .i64 6), (13, .slice (some ⟨b33, 0, none⟩) level_Pairs_lit.length c32), (14, .int .i64 (level_Pairs_lit.length : Int)), (15, .int .i64 1)] (by kernel_rfl) ?_
  intro _
  replace hI := hI.pick (L' := [.blk b1 42 [.int .u16 0, .int .u16 0, .int .u16 0, .int .u16 0, .int .u16 0, .int .u16 0, .int .u16 0, .int .u16 0, .int .u16 0], .blk b2 42 [.int .u16 0, .int .u16 0, .int .u16 0, .int .u16 0, .int .u16 0, .int .u16 0, .int .u16 64, .int .u16 384, .int .u16 256], .row (Ty.flat 2 (fun x : Int × Int => [.int .i64 x.1, .int .i64 x.2]) (fun _ => rfl) (fun _ => oneAll rfl)) 32 (some ⟨b33, 0, none⟩) level_Pairs_lit.length c32 level_Pairs_lit]) [0, 1, 2] (by decide) rfl
  refine go_seq ?_
  refine r_in ?_
  refine o_batch 0 [] [.p] [(16, .bool true)] [] trivial trivial (by kernel_rfl) (by kernel_rfl) (by kernel_rfl) ?_
  refine r_out (by kernel_rfl) ?_
  refine go_seq ?_
  refine go_then (by kernel_rfl) ?_
  refine go_skip ?_
  refine go_seq ?_
  refine go_block ?_
  refine go_seq ?_
  refine r_in ?_
  refine o_batch 0 [(b33, 0 + (1 : Int).toNat * 2, [.int .i64 2, .int .i64 6])] [.x, .l 0 0] [(17, .pointer (some ⟨b33, 0 + (1 : Int).toNat * 2, none⟩)), (18, .agg #[.int .i64 2, .int .i64 6])] [(1, level_Pairs_lit.length)] ⟨(rdS.flook (hI.row 2 rfl) (hI.rowlen 2 rfl) (by decide : 0 ≤ (1 : Int) ∧ (1 : Int) < (level_Pairs_lit.length : Int))).ok, trivial⟩ ⟨(by decide : 0 ≤ (1 : Int) ∧ (1 : Int) < (level_Pairs_lit.length : Int)), trivial⟩ (by kernel_rfl) (by kernel_rfl) (by kernel_rfl) ?_
  refine o_eff 2 _ rfl (by kernel_rfl) ?_
  refine e_alloc 32 (.agg #[.int .i64 0, .int .i64 0]) [.int .i64 0, .int .i64 0] rfl (by kernel_rfl) rfl hI ?_
  clear hI
  intro b35 _ hI
  refine o_eff 3 _ rfl (by kernel_rfl) ?_
  refine e_store 32 _ _ 3 b35 32 [.int .i64 0, .int .i64 0] [.int .i64 2, .int .i64 6] 0 (.agg #[.int .i64 2, .int .i64 6]) rfl (by kernel_rfl) (by kernel_rfl) (by kernel_rfl) (by kernel_rfl) hI rfl (by kernel_rfl) (by kernel_rfl) ?_
  clear hI
  intro _ hI
  refine r_out (by kernel_rfl) ?_
  refine go_seq ?_
  refine r_in ?_
  refine o_batch 0 [(b35, 0, [.int .i64 2, .int .i64 6])] [.p, .l 0 0, .p, .p] [(19, .pointer (some ⟨b35, 0, none⟩)), (20, .int .i64 2), (21, .int .i64 6), (22, .bool false)] [] ⟨(hI.grp 3 rfl), trivial⟩ trivial (by kernel_rfl) (by kernel_rfl) (by kernel_rfl) ?_
  refine r_out (by kernel_rfl) ?_
  refine go_else (by kernel_rfl) ?_
  refine go_skip ?_
  refine go_inBlock ?_
  refine r_in ?_
  refine o_batch 0 [] [.p, .p] [(32, .int .i64 2), (15, .int .i64 2)] [] trivial trivial (by kernel_rfl) (by kernel_rfl) (by kernel_rfl) ?_
  refine r_out (by kernel_rfl) ?_
  refine go_again ?_
  refine go_gen [(0, .pointer (some ⟨b1, 0, none⟩)), (1, .pointer (some ⟨b2, 0, none⟩)), (2, .int .i64 6), (13, .slice (some ⟨b33, 0, none⟩) level_Pairs_lit.length c32), (14, .int .i64 (level_Pairs_lit.length : Int)), (15, .int .i64 2)] (by kernel_rfl) ?_
  intro _
  replace hI := hI.pick (L' := [.blk b1 42 [.int .u16 0, .int .u16 0, .int .u16 0, .int .u16 0, .int .u16 0, .int .u16 0, .int .u16 0, .int .u16 0, .int .u16 0], .blk b2 42 [.int .u16 0, .int .u16 0, .int .u16 0, .int .u16 0, .int .u16 0, .int .u16 0, .int .u16 64, .int .u16 384, .int .u16 256], .row (Ty.flat 2 (fun x : Int × Int => [.int .i64 x.1, .int .i64 x.2]) (fun _ => rfl) (fun _ => oneAll rfl)) 32 (some ⟨b33, 0, none⟩) level_Pairs_lit.length c32 level_Pairs_lit]) [0, 1, 2] (by decide) rfl
  refine go_seq ?_
  refine r_in ?_
  refine o_batch 0 [] [.p] [(16, .bool true)] [] trivial trivial (by kernel_rfl) (by kernel_rfl) (by kernel_rfl) ?_
  refine r_out (by kernel_rfl) ?_
  refine go_seq ?_
  refine go_then (by kernel_rfl) ?_
  refine go_skip ?_
  refine go_seq ?_
  refine go_block ?_
  refine go_seq ?_
  refine r_in ?_
  refine o_batch 0 [(b33, 0 + (2 : Int).toNat * 2, [.int .i64 1, .int .i64 3])] [.x, .l 0 0] [(17, .pointer (some ⟨b33, 0 + (2 : Int).toNat * 2, none⟩)), (18, .agg #[.int .i64 1, .int .i64 3])] [(2, level_Pairs_lit.length)] ⟨(rdS.flook (hI.row 2 rfl) (hI.rowlen 2 rfl) (by decide : 0 ≤ (2 : Int) ∧ (2 : Int) < (level_Pairs_lit.length : Int))).ok, trivial⟩ ⟨(by decide : 0 ≤ (2 : Int) ∧ (2 : Int) < (level_Pairs_lit.length : Int)), trivial⟩ (by kernel_rfl) (by kernel_rfl) (by kernel_rfl) ?_
  refine o_eff 2 _ rfl (by kernel_rfl) ?_
  refine e_alloc 32 (.agg #[.int .i64 0, .int .i64 0]) [.int .i64 0, .int .i64 0] rfl (by kernel_rfl) rfl hI ?_
  clear hI
  intro b36 _ hI
  refine o_eff 3 _ rfl (by kernel_rfl) ?_
  refine e_store 32 _ _ 3 b36 32 [.int .i64 0, .int .i64 0] [.int .i64 1, .int .i64 3] 0 (.agg #[.int .i64 1, .int .i64 3]) rfl (by kernel_rfl) (by kernel_rfl) (by kernel_rfl) (by kernel_rfl) hI rfl (by kernel_rfl) (by kernel_rfl) ?_
  clear hI
  intro _ hI
  refine r_out (by kernel_rfl) ?_
  refine go_seq ?_
  refine r_in ?_
  refine o_batch 0 [(b36, 0, [.int .i64 1, .int .i64 3])] [.p, .l 0 0, .p, .p] [(19, .pointer (some ⟨b36, 0, none⟩)), (20, .int .i64 1), (21, .int .i64 6), (22, .bool false)] [] ⟨(hI.grp 3 rfl), trivial⟩ trivial (by kernel_rfl) (by kernel_rfl) (by kernel_rfl) ?_
  refine r_out (by kernel_rfl) ?_
  refine go_else (by kernel_rfl) ?_
  refine go_skip ?_
  refine go_inBlock ?_
  refine r_in ?_
  refine o_batch 0 [] [.p, .p] [(32, .int .i64 3), (15, .int .i64 3)] [] trivial trivial (by kernel_rfl) (by kernel_rfl) (by kernel_rfl) ?_
  refine r_out (by kernel_rfl) ?_
  refine go_again ?_
  refine go_gen [(0, .pointer (some ⟨b1, 0, none⟩)), (1, .pointer (some ⟨b2, 0, none⟩)), (2, .int .i64 6), (13, .slice (some ⟨b33, 0, none⟩) level_Pairs_lit.length c32), (14, .int .i64 (level_Pairs_lit.length : Int)), (15, .int .i64 3)] (by kernel_rfl) ?_
  intro _
  replace hI := hI.pick (L' := [.blk b1 42 [.int .u16 0, .int .u16 0, .int .u16 0, .int .u16 0, .int .u16 0, .int .u16 0, .int .u16 0, .int .u16 0, .int .u16 0], .blk b2 42 [.int .u16 0, .int .u16 0, .int .u16 0, .int .u16 0, .int .u16 0, .int .u16 0, .int .u16 64, .int .u16 384, .int .u16 256], .row (Ty.flat 2 (fun x : Int × Int => [.int .i64 x.1, .int .i64 x.2]) (fun _ => rfl) (fun _ => oneAll rfl)) 32 (some ⟨b33, 0, none⟩) level_Pairs_lit.length c32 level_Pairs_lit]) [0, 1, 2] (by decide) rfl
  refine go_seq ?_
  refine r_in ?_
  refine o_batch 0 [] [.p] [(16, .bool true)] [] trivial trivial (by kernel_rfl) (by kernel_rfl) (by kernel_rfl) ?_
  refine r_out (by kernel_rfl) ?_
  refine go_seq ?_
  refine go_then (by kernel_rfl) ?_
  refine go_skip ?_
  refine go_seq ?_
  refine go_block ?_
  refine go_seq ?_
  refine r_in ?_
  refine o_batch 0 [(b33, 0 + (3 : Int).toNat * 2, [.int .i64 3, .int .i64 4])] [.x, .l 0 0] [(17, .pointer (some ⟨b33, 0 + (3 : Int).toNat * 2, none⟩)), (18, .agg #[.int .i64 3, .int .i64 4])] [(3, level_Pairs_lit.length)] ⟨(rdS.flook (hI.row 2 rfl) (hI.rowlen 2 rfl) (by decide : 0 ≤ (3 : Int) ∧ (3 : Int) < (level_Pairs_lit.length : Int))).ok, trivial⟩ ⟨(by decide : 0 ≤ (3 : Int) ∧ (3 : Int) < (level_Pairs_lit.length : Int)), trivial⟩ (by kernel_rfl) (by kernel_rfl) (by kernel_rfl) ?_
  refine o_eff 2 _ rfl (by kernel_rfl) ?_
  refine e_alloc 32 (.agg #[.int .i64 0, .int .i64 0]) [.int .i64 0, .int .i64 0] rfl (by kernel_rfl) rfl hI ?_
  clear hI
  intro b37 _ hI
  refine o_eff 3 _ rfl (by kernel_rfl) ?_
  refine e_store 32 _ _ 3 b37 32 [.int .i64 0, .int .i64 0] [.int .i64 3, .int .i64 4] 0 (.agg #[.int .i64 3, .int .i64 4]) rfl (by kernel_rfl) (by kernel_rfl) (by kernel_rfl) (by kernel_rfl) hI rfl (by kernel_rfl) (by kernel_rfl) ?_
  clear hI
  intro _ hI
  refine r_out (by kernel_rfl) ?_
  refine go_seq ?_
  refine r_in ?_
  refine o_batch 0 [(b37, 0, [.int .i64 3, .int .i64 4])] [.p, .l 0 0, .p, .p] [(19, .pointer (some ⟨b37, 0, none⟩)), (20, .int .i64 3), (21, .int .i64 6), (22, .bool false)] [] ⟨(hI.grp 3 rfl), trivial⟩ trivial (by kernel_rfl) (by kernel_rfl) (by kernel_rfl) ?_
  refine r_out (by kernel_rfl) ?_
  refine go_else (by kernel_rfl) ?_
  refine go_skip ?_
  refine go_inBlock ?_
  refine r_in ?_
  refine o_batch 0 [] [.p, .p] [(32, .int .i64 4), (15, .int .i64 4)] [] trivial trivial (by kernel_rfl) (by kernel_rfl) (by kernel_rfl) ?_
  refine r_out (by kernel_rfl) ?_
  refine go_again ?_
  refine go_gen [(0, .pointer (some ⟨b1, 0, none⟩)), (1, .pointer (some ⟨b2, 0, none⟩)), (2, .int .i64 6), (13, .slice (some ⟨b33, 0, none⟩) level_Pairs_lit.length c32), (14, .int .i64 (level_Pairs_lit.length : Int)), (15, .int .i64 4)] (by kernel_rfl) ?_
  intro _
  replace hI := hI.pick (L' := [.blk b1 42 [.int .u16 0, .int .u16 0, .int .u16 0, .int .u16 0, .int .u16 0, .int .u16 0, .int .u16 0, .int .u16 0, .int .u16 0], .blk b2 42 [.int .u16 0, .int .u16 0, .int .u16 0, .int .u16 0, .int .u16 0, .int .u16 0, .int .u16 64, .int .u16 384, .int .u16 256], .row (Ty.flat 2 (fun x : Int × Int => [.int .i64 x.1, .int .i64 x.2]) (fun _ => rfl) (fun _ => oneAll rfl)) 32 (some ⟨b33, 0, none⟩) level_Pairs_lit.length c32 level_Pairs_lit]) [0, 1, 2] (by decide) rfl
  refine go_seq ?_
  refine r_in ?_
  refine o_batch 0 [] [.p] [(16, .bool true)] [] trivial trivial (by kernel_rfl) (by kernel_rfl) (by kernel_rfl) ?_
  refine r_out (by kernel_rfl) ?_
  refine go_seq ?_
  refine go_then (by kernel_rfl) ?_
  refine go_skip ?_
  refine go_seq ?_
  refine go_block ?_
  refine go_seq ?_
  refine r_in ?_
  refine o_batch 0 [(b33, 0 + (4 : Int).toNat * 2, [.int .i64 4, .int .i64 5])] [.x, .l 0 0] [(17, .pointer (some ⟨b33, 0 + (4 : Int).toNat * 2, none⟩)), (18, .agg #[.int .i64 4, .int .i64 5])] [(4, level_Pairs_lit.length)] ⟨(rdS.flook (hI.row 2 rfl) (hI.rowlen 2 rfl) (by decide : 0 ≤ (4 : Int) ∧ (4 : Int) < (level_Pairs_lit.length : Int))).ok, trivial⟩ ⟨(by decide : 0 ≤ (4 : Int) ∧ (4 : Int) < (level_Pairs_lit.length : Int)), trivial⟩ (by kernel_rfl) (by kernel_rfl) (by kernel_rfl) ?_
  refine o_eff 2 _ rfl (by kernel_rfl) ?_
  refine e_alloc 32 (.agg #[.int .i64 0, .int .i64 0]) [.int .i64 0, .int .i64 0] rfl (by kernel_rfl) rfl hI ?_
  clear hI
  intro b38 _ hI
  refine o_eff 3 _ rfl (by kernel_rfl) ?_
  refine e_store 32 _ _ 3 b38 32 [.int .i64 0, .int .i64 0] [.int .i64 4, .int .i64 5] 0 (.agg #[.int .i64 4, .int .i64 5]) rfl (by kernel_rfl) (by kernel_rfl) (by kernel_rfl) (by kernel_rfl) hI rfl (by kernel_rfl) (by kernel_rfl) ?_
  clear hI
  intro _ hI
  refine r_out (by kernel_rfl) ?_
  refine go_seq ?_
  refine r_in ?_
  refine o_batch 0 [(b38, 0, [.int .i64 4, .int .i64 5])] [.p, .l 0 0, .p, .p] [(19, .pointer (some ⟨b38, 0, none⟩)), (20, .int .i64 4), (21, .int .i64 6), (22, .bool false)] [] ⟨(hI.grp 3 rfl), trivial⟩ trivial (by kernel_rfl) (by kernel_rfl) (by kernel_rfl) ?_
  refine r_out (by kernel_rfl) ?_
  refine go_else (by kernel_rfl) ?_
  refine go_skip ?_
  refine go_inBlock ?_
  refine r_in ?_
  refine o_batch 0 [] [.p, .p] [(32, .int .i64 5), (15, .int .i64 5)] [] trivial trivial (by kernel_rfl) (by kernel_rfl) (by kernel_rfl) ?_
  refine r_out (by kernel_rfl) ?_
  refine go_again ?_
  refine go_gen [(0, .pointer (some ⟨b1, 0, none⟩)), (1, .pointer (some ⟨b2, 0, none⟩)), (2, .int .i64 6), (13, .slice (some ⟨b33, 0, none⟩) level_Pairs_lit.length c32), (14, .int .i64 (level_Pairs_lit.length : Int)), (15, .int .i64 5)] (by kernel_rfl) ?_
  intro _
  replace hI := hI.pick (L' := [.blk b1 42 [.int .u16 0, .int .u16 0, .int .u16 0, .int .u16 0, .int .u16 0, .int .u16 0, .int .u16 0, .int .u16 0, .int .u16 0], .blk b2 42 [.int .u16 0, .int .u16 0, .int .u16 0, .int .u16 0, .int .u16 0, .int .u16 0, .int .u16 64, .int .u16 384, .int .u16 256], .row (Ty.flat 2 (fun x : Int × Int => [.int .i64 x.1, .int .i64 x.2]) (fun _ => rfl) (fun _ => oneAll rfl)) 32 (some ⟨b33, 0, none⟩) level_Pairs_lit.length c32 level_Pairs_lit]) [0, 1, 2] (by decide) rfl
  refine go_seq ?_
  refine r_in ?_
  refine o_batch 0 [] [.p] [(16, .bool true)] [] trivial trivial (by kernel_rfl) (by kernel_rfl) (by kernel_rfl) ?_
  refine r_out (by kernel_rfl) ?_
  refine go_seq ?_
  refine go_then (by kernel_rfl) ?_
  refine go_skip ?_
  refine go_seq ?_
  refine go_block ?_
  refine go_seq ?_
  refine r_in ?_
  refine o_batch 0 [(b33, 0 + (5 : Int).toNat * 2, [.int .i64 5, .int .i64 6])] [.x, .l 0 0] [(17, .pointer (some ⟨b33, 0 + (5 : Int).toNat * 2, none⟩)), (18, .agg #[.int .i64 5, .int .i64 6])] [(5, level_Pairs_lit.length)] ⟨(rdS.flook (hI.row 2 rfl) (hI.rowlen 2 rfl) (by decide : 0 ≤ (5 : Int) ∧ (5 : Int) < (level_Pairs_lit.length : Int))).ok, trivial⟩ ⟨(by decide : 0 ≤ (5 : Int) ∧ (5 : Int) < (level_Pairs_lit.length : Int)), trivial⟩ (by kernel_rfl) (by kernel_rfl) (by kernel_rfl) ?_
  refine o_eff 2 _ rfl (by kernel_rfl) ?_
  refine e_alloc 32 (.agg #[.int .i64 0, .int .i64 0]) [.int .i64 0, .int .i64 0] rfl (by kernel_rfl) rfl hI ?_
  clear hI
  intro b39 _ hI
  refine o_eff 3 _ rfl (by kernel_rfl) ?_
  refine e_store 32 _ _ 3 b39 32 [.int .i64 0, .int .i64 0] [.int .i64 5, .int .i64 6] 0 (.agg #[.int .i64 5, .int .i64 6]) rfl (by kernel_rfl) (by kernel_rfl) (by kernel_rfl) (by kernel_rfl) hI rfl (by kernel_rfl) (by kernel_rfl) ?_
  clear hI
  intro _ hI
  refine r_out (by kernel_rfl) ?_
  refine go_seq ?_
  refine r_in ?_
  refine o_batch 0 [(b39, 0, [.int .i64 5, .int .i64 6])] [.p, .l 0 0, .p, .p] [(19, .pointer (some ⟨b39, 0, none⟩)), (20, .int .i64 5), (21, .int .i64 6), (22, .bool false)] [] ⟨(hI.grp 3 rfl), trivial⟩ trivial (by kernel_rfl) (by kernel_rfl) (by kernel_rfl) ?_
  refine r_out (by kernel_rfl) ?_
  refine go_else (by kernel_rfl) ?_
  refine go_skip ?_
  refine go_inBlock ?_
  refine r_in ?_
  refine o_batch 0 [] [.p, .p] [(32, .int .i64 6), (15, .int .i64 6)] [] trivial trivial (by kernel_rfl) (by kernel_rfl) (by kernel_rfl) ?_
  refine r_out (by kernel_rfl) ?_
  refine go_again ?_
  refine go_gen [(0, .pointer (some ⟨b1, 0, none⟩)), (1, .pointer (some ⟨b2, 0, none⟩)), (2, .int .i64 6), (13, .slice (some ⟨b33, 0, none⟩) level_Pairs_lit.length c32), (14, .int .i64 (level_Pairs_lit.length : Int)), (15, .int .i64 6)] (by kernel_rfl) ?_
  intro _
  replace hI := hI.pick (L' := [.blk b1 42 [.int .u16 0, .int .u16 0, .int .u16 0, .int .u16 0, .int .u16 0, .int .u16 0, .int .u16 0, .int .u16 0, .int .u16 0], .blk b2 42 [.int .u16 0, .int .u16 0, .int .u16 0, .int .u16 0, .int .u16 0, .int .u16 0, .int .u16 64, .int .u16 384, .int .u16 256], .row (Ty.flat 2 (fun x : Int × Int => [.int .i64 x.1, .int .i64 x.2]) (fun _ => rfl) (fun _ => oneAll rfl)) 32 (some ⟨b33, 0, none⟩) level_Pairs_lit.length c32 level_Pairs_lit]) [0, 1, 2] (by decide) rfl
  refine go_seq ?_
  refine r_in ?_
  refine o_batch 0 [] [.p] [(16, .bool true)] [] trivial trivial (by kernel_rfl) (by kernel_rfl) (by kernel_rfl) ?_
  refine r_out (by kernel_rfl) ?_
  refine go_seq ?_
  refine go_then (by kernel_rfl) ?_
  refine go_skip ?_
  refine go_seq ?_
  refine go_block ?_
  refine go_seq ?_
  refine r_in ?_
  refine o_batch 0 [(b33, 0 + (6 : Int).toNat * 2, [.int .i64 6, .int .i64 7])] [.x, .l 0 0] [(17, .pointer (some ⟨b33, 0 + (6 : Int).toNat * 2, none⟩)), (18, .agg #[.int .i64 6, .int .i64 7])] [(6, level_Pairs_lit.length)] ⟨(rdS.flook (hI.row 2 rfl) (hI.rowlen 2 rfl) (by decide : 0 ≤ (6 : Int) ∧ (6 : Int) < (level_Pairs_lit.length : Int))).ok, trivial⟩ ⟨(by decide : 0 ≤ (6 : Int) ∧ (6 : Int) < (level_Pairs_lit.length : Int)), trivial⟩ (by kernel_rfl) (by kernel_rfl) (by kernel_rfl) ?_
  refine o_eff 2 _ rfl (by kernel_rfl) ?_
  refine e_alloc 32 (.agg #[.int .i64 0, .int .i64 0]) [.int .i64 0, .int .i64 0] rfl (by kernel_rfl) rfl hI ?_
  clear hI
  intro b40 _ hI
  refine o_eff 3 _ rfl (by kernel_rfl) ?_
  refine e_store 32 _ _ 3 b40 32 [.int .i64 0, .int .i64 0] [.int .i64 6, .int .i64 7] 0 (.agg #[.int .i64 6, .int .i64 7]) rfl (by kernel_rfl) (by kernel_rfl) (by kernel_rfl) (by kernel_rfl) hI rfl (by kernel_rfl) (by kernel_rfl) ?_
  clear hI
  intro _ hI
  refine r_out (by kernel_rfl) ?_
  refine go_seq ?_
  refine r_in ?_
  refine o_batch 0 [(b40, 0, [.int .i64 6, .int .i64 7])] [.p, .l 0 0, .p, .p] [(19, .pointer (some ⟨b40, 0, none⟩)), (20, .int .i64 6), (21, .int .i64 6), (22, .bool true)] [] ⟨(hI.grp 3 rfl), trivial⟩ trivial (by kernel_rfl) (by kernel_rfl) (by kernel_rfl) ?_
  refine r_out (by kernel_rfl) ?_
  refine go_then (by kernel_rfl) ?_
  refine d_tail' 9 _ [(b2, 0, [.int .u16 0, .int .u16 0, .int .u16 0, .int .u16 0, .int .u16 0, .int .u16 0, .int .u16 64, .int .u16 384, .int .u16 256]), (b40, 0, [.int .i64 6, .int .i64 7])] [.p, .p, .l 0 6, .p, .l 1 1, .p, .l 0 7, .p, .p] [(23, .int .i64 6), (24, .pointer (some ⟨b2, 6, none⟩)), (25, .int .u16 64), (26, .pointer (some ⟨b40, 1, none⟩)), (27, .int .i64 7), (28, .pointer (some ⟨b2, 7, none⟩)), (29, .int .u16 384), (30, .int .u16 448), (31, .pointer (some ⟨b2, 6, none⟩))] [] (by kernel_rfl) (by kernel_rfl) rfl rfl ⟨(hI.grp 1 rfl), (hI.grp 3 rfl), trivial⟩ trivial (by kernel_rfl) (by kernel_rfl) (by kernel_rfl) (by kernel_rfl) hI ?_
  clear hI
  intro _ hI hsame
  refine e_store 41 _ _ 1 b2 42 [.int .u16 0, .int .u16 0, .int .u16 0, .int .u16 0, .int .u16 0, .int .u16 0, .int .u16 64, .int .u16 384, .int .u16 256] [.int .u16 0, .int .u16 0, .int .u16 0, .int .u16 0, .int .u16 0, .int .u16 0, .int .u16 448, .int .u16 384, .int .u16 256] 6 (.int .u16 448) rfl (by kernel_rfl) (by kernel_rfl) (by kernel_rfl) (by kernel_rfl) hI rfl (by kernel_rfl) (by kernel_rfl) ?_
  clear hI
  intro _ hI
  refine go_inBlock ?_
  refine r_in ?_
  refine o_batch 0 [] [.p, .p] [(32, .int .i64 7), (15, .int .i64 7)] [] trivial trivial (by kernel_rfl) (by kernel_rfl) (by kernel_rfl) ?_
  refine r_out (by kernel_rfl) ?_
  refine go_again ?_
  refine go_gen [(0, .pointer (some ⟨b1, 0, none⟩)), (1, .pointer (some ⟨b2, 0, none⟩)), (2, .int .i64 6), (13, .slice (some ⟨b33, 0, none⟩) level_Pairs_lit.length c32), (14, .int .i64 (level_Pairs_lit.length : Int)), (15, .int .i64 7)] (by kernel_rfl) ?_
  intro _
  replace hI := hI.pick (L' := [.blk b1 42 [.int .u16 0, .int .u16 0, .int .u16 0, .int .u16 0, .int .u16 0, .int .u16 0, .int .u16 0, .int .u16 0, .int .u16 0], .blk b2 42 [.int .u16 0, .int .u16 0, .int .u16 0, .int .u16 0, .int .u16 0, .int .u16 0, .int .u16 448, .int .u16 384, .int .u16 256], .row (Ty.flat 2 (fun x : Int × Int => [.int .i64 x.1, .int .i64 x.2]) (fun _ => rfl) (fun _ => oneAll rfl)) 32 (some ⟨b33, 0, none⟩) level_Pairs_lit.length c32 level_Pairs_lit]) [0, 1, 2] (by decide) rfl
  refine go_seq ?_
  refine r_in ?_
  refine o_batch 0 [] [.p] [(16, .bool true)] [] trivial trivial (by kernel_rfl) (by kernel_rfl) (by kernel_rfl) ?_
  refine r_out (by kernel_rfl) ?_
  refine go_seq ?_
  refine go_then (by kernel_rfl) ?_
  refine go_skip ?_
  refine go_seq ?_
  refine go_block ?_
  refine go_seq ?_
  refine r_in ?_
  refine o_batch 0 [(b33, 0 + (7 : Int).toNat * 2, [.int .i64 7, .int .i64 8])] [.x, .l 0 0] [(17, .pointer (some ⟨b33, 0 + (7 : Int).toNat * 2, none⟩)), (18, .agg #[.int .i64 7, .int .i64 8])] [(7, level_Pairs_lit.length)] ⟨(rdS.flook (hI.row 2 rfl) (hI.rowlen 2 rfl) (by decide : 0 ≤ (7 : Int) ∧ (7 : Int) < (level_Pairs_lit.length : Int))).ok, trivial⟩ ⟨(by decide : 0 ≤ (7 : Int) ∧ (7 : Int) < (level_Pairs_lit.length : Int)), trivial⟩ (by kernel_rfl) (by kernel_rfl) (by kernel_rfl) ?_
  refine o_eff 2 _ rfl (by kernel_rfl) ?_
  refine e_alloc 32 (.agg #[.int .i64 0, .int .i64 0]) [.int .i64 0, .int .i64 0] rfl (by kernel_rfl) rfl hI ?_
  clear hI
  intro b41 _ hI
  refine o_eff 3 _ rfl (by kernel_rfl) ?_
  refine e_store 32 _ _ 3 b41 32 [.int .i64 0, .int .i64 0] [.int .i64 7, .int .i64 8] 0 (.agg #[.int .i64 7, .int .i64 8]) rfl (by kernel_rfl) (by kernel_rfl) (by kernel_rfl) (by kernel_rfl) hI rfl (by kernel_rfl) (by kernel_rfl) ?_
  clear hI
  intro _ hI
  refine r_out (by kernel_rfl) ?_
  refine go_seq ?_
  refine r_in ?_
  refine o_batch 0 [(b41, 0, [.int .i64 7, .int .i64 8])] [.p, .l 0 0, .p, .p] [(19, .pointer (some ⟨b41, 0, none⟩)), (20, .int .i64 7), (21, .int .i64 6), (22, .bool false)] [] ⟨(hI.grp 3 rfl), trivial⟩ trivial (by kernel_rfl) (by kernel_rfl) (by kernel_rfl) ?_
  refine r_out (by kernel_rfl) ?_
  refine go_else (by kernel_rfl) ?_
  refine go_skip ?_
  refine go_inBlock ?_
  refine r_in ?_
  refine o_batch 0 [] [.p, .p] [(32, .int .i64 8), (15, .int .i64 8)] [] trivial trivial (by kernel_rfl) (by kernel_rfl) (by kernel_rfl) ?_
  refine r_out (by kernel_rfl) ?_
  refine go_again ?_
  refine go_gen [(0, .pointer (some ⟨b1, 0, none⟩)), (1, .pointer (some ⟨b2, 0, none⟩)), (2, .int .i64 6), (13, .slice (some ⟨b33, 0, none⟩) level_Pairs_lit.length c32), (14, .int .i64 (level_Pairs_lit.length : Int)), (15, .int .i64 8)] (by kernel_rfl) ?_
  intro _
  replace hI := hI.pick (L' := [.blk b1 42 [.int .u16 0, .int .u16 0, .int .u16 0, .int .u16 0, .int .u16 0, .int .u16 0, .int .u16 0, .int .u16 0, .int .u16 0], .blk b2 42 [.int .u16 0, .int .u16 0, .int .u16 0, .int .u16 0, .int .u16 0, .int .u16 0, .int .u16 448, .int .u16 384, .int .u16 256], .row (Ty.flat 2 (fun x : Int × Int => [.int .i64 x.1, .int .i64 x.2]) (fun _ => rfl) (fun _ => oneAll rfl)) 32 (some ⟨b33, 0, none⟩) level_Pairs_lit.length c32 level_Pairs_lit]) [0, 1, 2] (by decide) rfl
  refine go_seq ?_
  refine r_in ?_
  refine o_batch 0 [] [.p] [(16, .bool false)] [] trivial trivial (by kernel_rfl) (by kernel_rfl) (by kernel_rfl) ?_
  refine r_out (by kernel_rfl) ?_
  refine go_seq ?_
  refine go_else (by kernel_rfl) ?_
  refine go_exit rfl ?_
  refine go_inBlock ?_
  refine r_in ?_
  refine o_batch 0 [] [.p, .p, .p] [(7, .int .i64 6), (8, .int .i64 5), (2, .int .i64 5)] [] trivial trivial (by kernel_rfl) (by kernel_rfl) (by kernel_rfl) ?_
  refine r_out (by kernel_rfl) ?_
  refine go_again ?_
  refine go_gen [(0, .pointer (some ⟨b1, 0, none⟩)), (1, .pointer (some ⟨b2, 0, none⟩)), (2, .int .i64 5)] (by kernel_rfl) ?_
  intro _
  replace hI := hI.pick (L' := [.blk b1 42 [.int .u16 0, .int .u16 0, .int .u16 0, .int .u16 0, .int .u16 0, .int .u16 0, .int .u16 0, .int .u16 0, .int .u16 0], .blk b2 42 [.int .u16 0, .int .u16 0, .int .u16 0, .int .u16 0, .int .u16 0, .int .u16 0, .int .u16 448, .int .u16 384, .int .u16 256]]) [0, 1] (by decide) rfl
  refine go_seq ?_
  refine go_seq ?_
  refine r_in ?_
  refine o_batch 0 [] [.p, .p] [(5, .int .i64 5), (6, .bool true)] [] trivial trivial (by kernel_rfl) (by kernel_rfl) (by kernel_rfl) ?_
  refine r_out (by kernel_rfl) ?_
  refine go_then (by kernel_rfl) ?_
  refine go_skip ?_
  refine go_seq ?_
  refine go_block ?_
  refine go_seq ?_
  refine r_in ?_
  refine o_batch 0 [] [.p, .p, .x, .p] [(9, .int .i64 5), (10, .int .i64 5), (11, .int .u16 32), (12, .pointer (some ⟨b2, 5, none⟩))] [(5, far)] trivial ⟨(by decide), trivial⟩ (by kernel_rfl) (by kernel_rfl) (by kernel_rfl) ?_
  refine o_eff 4 _ rfl (by kernel_rfl) ?_
  refine e_store 41 _ _ 1 b2 42 [.int .u16 0, .int .u16 0, .int .u16 0, .int .u16 0, .int .u16 0, .int .u16 0, .int .u16 448, .int .u16 384, .int .u16 256] [.int .u16 0, .int .u16 0, .int .u16 0, .int .u16 0, .int .u16 0, .int .u16 32, .int .u16 448, .int .u16 384, .int .u16 256] 5 (.int .u16 32) rfl (by kernel_rfl) (by kernel_rfl) (by kernel_rfl) (by kernel_rfl) hI rfl (by kernel_rfl) (by kernel_rfl) ?_
  clear hI
  intro _ hI
  refine r_out (by kernel_rfl) ?_
  refine go_seq ?_
  refine r_in ?_
  replace H := bind_some H
  obtain ⟨y42, hy43, H⟩ := H
  have hyc : y42 = level_Pairs_lit := (Option.some.inj hy43).symm
  subst hyc
  refine o_eff 0 _ rfl (by kernel_rfl) ?_
  refine e_callf _ _ _ 14 #[] #[] #[] #[] rfl (by kernel_rfl) (by kernel_rfl) (by kernel_rfl) (enter14 _) (level_Pairs_calls (memOf _) _ (Inv.start _) _ hy43) ?_
  rintro _ _ ⟨A44, c45, rfl, hI'⟩
  replace hI := hI.call0 hI'
  clear hI'
  refine ⟨_, rfl, ?_⟩
  refine o_batch 1 [] [.p, .p] [(14, .int .i64 (level_Pairs_lit.length : Int)), (15, .int .i64 0)] [] trivial trivial (by kernel_rfl) (by kernel_rfl) (by kernel_rfl) ?_
  refine r_out (by kernel_rfl) ?_
  refine go_block ?_
  refine go_loop ?_
  refine go_seq ?_
  refine r_in ?_
  refine o_batch 0 [] [.p] [(16, .bool true)] [] trivial trivial (by kernel_rfl) (by kernel_rfl) (by kernel_rfl) ?_
  refine r_out (by kernel_rfl) ?_
  refine go_seq ?_
  refine go_then (by kernel_rfl) ?_
  refine go_skip ?_
  refine go_seq ?_
  refine go_block ?_
  refine go_seq ?_
  refine r_in ?_
  obtain ⟨b46, rfl⟩ := hI.rowAt 2 rfl (by decide : 0 ≤ (0 : Int) ∧ (0 : Int) < (level_Pairs_lit.length : Int))
  refine o_batch 0 [(b46, 0 + (0 : Int).toNat * 2, [.int .i64 1, .int .i64 2])] [.x, .l 0 0] [(17, .pointer (some ⟨b46, 0 + (0 : Int).toNat * 2, none⟩)), (18, .agg #[.int .i64 1, .int .i64 2])] [(0, level_Pairs_lit.length)] ⟨(rdS.flook (hI.row 2 rfl) (hI.rowlen 2 rfl) (by decide : 0 ≤ (0 : Int) ∧ (0 : Int) < (level_Pairs_lit.length : Int))).ok, trivial⟩ ⟨(by decide : 0 ≤ (0 : Int) ∧ (0 : Int) < (level_Pairs_lit.length : Int)), trivial⟩ (by kernel_rfl) (by kernel_rfl) (by kernel_rfl) ?_
  refine o_eff 2 _ rfl (by kernel_rfl) ?_
  refine e_alloc 32 (.agg #[.int .i64 0, .int .i64 0]) [.int .i64 0, .int .i64 0] rfl (by kernel_rfl) rfl hI ?_
  clear hI
  intro b47 _ hI
  refine o_eff 3 _ rfl (by kernel_rfl) ?_
  refine e_store 32 _ _ 3 b47 32 [.int .i64 0, .int .i64 0] [.int .i64 1, .int .i64 2] 0 (.agg #[.int .i64 1, .int .i64 2]) rfl (by kernel_rfl) (by kernel_rfl) (by kernel_rfl) (by kernel_rfl) hI rfl (by kernel_rfl) (by kernel_rfl) ?_
  clear hI
  intro _ hI
  refine r_out (by kernel_rfl) ?_
  refine go_seq ?_
  refine r_in ?_
  refine o_batch 0 [(b47, 0, [.int .i64 1, .int .i64 2])] [.p, .l 0 0, .p, .p] [(19, .pointer (some ⟨b47, 0, none⟩)), (20, .int .i64 1), (21, .int .i64 5), (22, .bool false)] [] ⟨(hI.grp 3 rfl), trivial⟩ trivial (by kernel_rfl) (by kernel_rfl) (by kernel_rfl) ?_
  refine r_out (by kernel_rfl) ?_
  refine go_else (by kernel_rfl) ?_
  refine go_skip ?_
  refine go_inBlock ?_
  refine r_in ?_
  refine o_batch 0 [] [.p, .p] [(32, .int .i64 1), (15, .int .i64 1)] [] trivial trivial (by kernel_rfl) (by kernel_rfl) (by kernel_rfl) ?_
  refine r_out (by kernel_rfl) ?_
  refine go_again ?_
  refine go_gen [(0, .pointer (some ⟨b1, 0, none⟩)), (1, .pointer (some ⟨b2, 0, none⟩)), (2, .int .i64 5), (13, .slice (some ⟨b46, 0, none⟩) level_Pairs_lit.length c45), (14, .int .i64 (level_Pairs_lit.length : Int)), (15, .int .i64 1)] (by kernel_rfl) ?_
  intro _
  replace hI := hI.pick (L' := [.blk b1 42 [.int .u16 0, .int .u16 0, .int .u16 0, .int .u16 0, .int .u16 0, .int .u16 0, .int .u16 0, .int .u16 0, .int .u16 0], .blk b2 42 [.int .u16 0, .int .u16 0, .int .u16 0, .int .u16 0, .int .u16 0, .int .u16 32, .int .u16 448, .int .u16 384, .int .u16 256], .row (Ty.flat 2 (fun x : Int × Int => [.int .i64 x.1, .int .i64 x.2]) (fun _ => rfl) (fun _ => oneAll rfl)) 32 (some ⟨b46, 0, none⟩) level_Pairs_lit.length c45 level_Pairs_lit]) [0, 1, 2] (by decide) rfl
  refine go_seq ?_
  refine r_in ?_
  refine o_batch 0 [] [.p] [(16, .bool true)] [] trivial trivial (by kernel_rfl) (by kernel_rfl) (by kernel_rfl) ?_
  refine r_out (by kernel_rfl) ?_
  refine go_seq ?_
  refine go_then (by kernel_rfl) ?_
  refine go_skip ?_
  refine go_seq ?_
  refine go_block ?_
  refine go_seq ?_
  refine r_in ?_
  refine o_batch 0 [(b46, 0 + (1 : Int).toNat * 2, [.int .i64 2, .int .i64 6])] [.x, .l 0 0] [(17, .pointer (some ⟨b46, 0 + (1 : Int).toNat * 2, none⟩)), (18, .agg #[.int .i64 2, .int .i64 6])] [(1, level_Pairs_lit.length)] ⟨(rdS.flook (hI.row 2 rfl) (hI.rowlen 2 rfl) (by decide : 0 ≤ (1 : Int) ∧ (1 : Int) < (level_Pairs_lit.length : Int))).ok, trivial⟩ ⟨(by decide : 0 ≤ (1 : Int) ∧ (1 : Int) < (level_Pairs_lit.length : Int)), trivial⟩ (by kernel_rfl) (by kernel_rfl) (by kernel_rfl) ?_
  refine o_eff 2 _ rfl (by kernel_rfl) ?_
  refine e_alloc 32 (.agg #[.int .i64 0, .int .i64 0]) [.int .i64 0, .int .i64 0] rfl (by kernel_rfl) rfl hI ?_
  clear hI
  intro b48 _ hI
  refine o_eff 3 _ rfl (by kernel_rfl) ?_
  refine e_store 32 _ _ 3 b48 32 [.int .i64 0, .int .i64 0] [.int .i64 2, .int .i64 6] 0 (.agg #[.int .i64 2, .int .i64 6]) rfl (by kernel_rfl) (by kernel_rfl) (by kernel_rfl) (by kernel_rfl) hI rfl (by kernel_rfl) (by kernel_rfl) ?_
  clear hI
  intro _ hI
  refine r_out (by kernel_rfl) ?_
  refine go_seq ?_
  refine r_in ?_
  refine o_batch 0 [(b48, 0, [.int .i64 2, .int .i64 6])] [.p, .l 0 0, .p, .p] [(19, .pointer (some ⟨b48, 0, none⟩)), (20, .int .i64 2), (21, .int .i64 5), (22, .bool false)] [] ⟨(hI.grp 3 rfl), trivial⟩ trivial (by kernel_rfl) (by kernel_rfl) (by kernel_rfl) ?_
  refine r_out (by kernel_rfl) ?_
  refine go_else (by kernel_rfl) ?_
  refine go_skip ?_
  refine go_inBlock ?_
  refine r_in ?_
  refine o_batch 0 [] [.p, .p] [(32, .int .i64 2), (15, .int .i64 2)] [] trivial trivial (by kernel_rfl) (by kernel_rfl) (by kernel_rfl) ?_
  refine r_out (by kernel_rfl) ?_
  refine go_again ?_
  refine go_gen [(0, .pointer (some ⟨b1, 0, none⟩)), (1, .pointer (some ⟨b2, 0, none⟩)), (2, .int .i64 5), (13, .slice (some ⟨b46, 0, none⟩) level_Pairs_lit.length c45), (14, .int .i64 (level_Pairs_lit.length : Int)), (15, .int .i64 2)] (by kernel_rfl) ?_
  intro _
  replace hI := hI.pick (L' := [.blk b1 42 [.int .u16 0, .int .u16 0, .int .u16 0, .int .u16 0, .int .u16 0, .int .u16 0, .int .u16 0, .int .u16 0, .int .u16 0], .blk b2 42 [.int .u16 0, .int .u16 0, .int .u16 0, .int .u16 0, .int .u16 0, .int .u16 32, .int .u16 448, .int .u16 384, .int .u16 256], .row (Ty.flat 2 (fun x : Int × Int => [.int .i64 x.1, .int .i64 x.2]) (fun _ => rfl) (fun _ => oneAll rfl)) 32 (some ⟨b46, 0, none⟩) level_Pairs_lit.length c45 level_Pairs_lit]) [0, 1, 2] (by decide) rfl
  refine go_seq ?_
  refine r_in ?_
  refine o_batch 0 [] [.p] [(16, .bool true)] [] trivial trivial (by kernel_rfl) (by kernel_rfl) (by kernel_rfl) ?_
  refine r_out (by kernel_rfl) ?_
  refine go_seq ?_
  refine go_then (by kernel_rfl) ?_
  refine go_skip ?_
  refine go_seq ?_
  refine go_block ?_
  refine go_seq ?_
  refine r_in ?_
  refine o_batch 0 [(b46, 0 + (2 : Int).toNat * 2, [.int .i64 1, .int .i64 3])] [.x, .l 0 0] [(17, .pointer (some ⟨b46, 0 + (2 : Int).toNat * 2, none⟩)), (18, .agg #[.int .i64 1, .int .i64 3])] [(2, level_Pairs_lit.length)] ⟨(rdS.flook (hI.row 2 rfl) (hI.rowlen 2 rfl) (by decide : 0 ≤ (2 : Int) ∧ (2 : Int) < (level_Pairs_lit.length : Int))).ok, trivial⟩ ⟨(by decide : 0 ≤ (2 : Int) ∧ (2 : Int) < (level_Pairs_lit.length : Int)), trivial⟩ (by kernel_rfl) (by kernel_rfl) (by kernel_rfl) ?_
  refine o_eff 2 _ rfl (by kernel_rfl) ?_
  refine e_alloc 32 (.agg #[.int .i64 0, .int .i64 0]) [.int .i64 0, .int .i64 0] rfl (by kernel_rfl) rfl hI ?_
  clear hI
  intro b49 _ hI
  refine o_eff 3 _ rfl (by kernel_rfl) ?_
  refine e_store 32 _ _ 3 b49 32 [.int .i64 0, .int .i64 0] [.int .i64 1, .int .i64 3] 0 (.agg #[.int .i64 1, .int .i64 3]) rfl (by kernel_rfl) (by kernel_rfl) (by kernel_rfl) (by kernel_rfl) hI rfl (by kernel_rfl) (by kernel_rfl) ?_
  clear hI
  intro _ hI
  refine r_out (by kernel_rfl) ?_
  refine go_seq ?_
  refine r_in ?_
  refine o_batch 0 [(b49, 0, [.int .i64 1, .int .i64 3])] [.p, .l 0 0, .p, .p] [(19, .pointer (some ⟨b49, 0, none⟩)), (20, .int .i64 1), (21, .int .i64 5), (22, .bool false)] [] ⟨(hI.grp 3 rfl), trivial⟩ trivial (by kernel_rfl) (by kernel_rfl) (by kernel_rfl) ?_
  refine r_out (by kernel_rfl) ?_
  refine go_else (by kernel_rfl) ?_
  refine go_skip ?_
  refine go_inBlock ?_
  refine r_in ?_
  refine o_batch 0 [] [.p, .p] [(32, .int .i64 3), (15, .int .i64 3)] [] trivial trivial (by kernel_rfl) (by kernel_rfl) (by kernel_rfl) ?_
  refine r_out (by kernel_rfl) ?_
  refine go_again ?_
  refine go_gen [(0, .pointer (some ⟨b1, 0, none⟩)), (1, .pointer (some ⟨b2, 0, none⟩)), (2, .int .i64 5), (13, .slice (some ⟨b46, 0, none⟩) level_Pairs_lit.length c45), (14, .int .i64 (level_Pairs_lit.length : Int)), (15, .int .i64 3)] (by kernel_rfl) ?_
  intro _
  replace hI := hI.pick (L' := [.blk b1 42 [.int .u16 0, .int .u16 0, .int .u16 0, .int .u16 0, .int .u16 0, .int .u16 0, .int .u16 0, .int .u16 0, .int .u16 0], .blk b2 42 [.int .u16 0, .int .u16 0, .int .u16 0, .int .u16 0, .int .u16 0, .int .u16 32, .int .u16 448, .int .u16 384, .int .u16 256], .row (Ty.flat 2 (fun x : Int × Int => [.int .i64 x.1, .int .i64 x.2]) (fun _ => rfl) (fun _ => oneAll rfl)) 32 (some ⟨b46, 0, none⟩) level_Pairs_lit.length c45 level_Pairs_lit]) [0, 1, 2] (by decide) rfl
  refine go_seq ?_
  refine r_in ?_
  refine o_batch 0 [] [.p] [(16, .bool true)] [] trivial trivial (by kernel_rfl) (by kernel_rfl) (by kernel_rfl) ?_
  refine r_out (by kernel_rfl) ?_
  refine go_seq ?_
  refine go_then (by kernel_rfl) ?_
  refine go_skip ?_
  refine go_seq ?_
  refine go_block ?_
  refine go_seq ?_
  refine r_in ?_
  refine o_batch 0 [(b46, 0 + (3 : Int).toNat * 2, [.int .i64 3, .int .i64 4])] [.x, .l 0 0] [(17, .pointer (some ⟨b46, 0 + (3 : Int).toNat * 2, none⟩)), (18, .agg #[.int .i64 3, .int .i64 4])] [(3, level_Pairs_lit.length)] ⟨(rdS.flook (hI.row 2 rfl) (hI.rowlen 2 rfl) (by decide : 0 ≤ (3 : Int) ∧ (3 : Int) < (level_Pairs_lit.length : Int))).ok, trivial⟩ ⟨(by decide : 0 ≤ (3 : Int) ∧ (3 : Int) < (level_Pairs_lit.length : Int)), trivial⟩ (by kernel_rfl) (by kernel_rfl) (by kernel_rfl) ?_
  refine o_eff 2 _ rfl (by kernel_rfl) ?_
  refine e_alloc 32 (.agg #[.int .i64 0, .int .i64 0]) [.int .i64 0, .int .i64 0] rfl (by kernel_rfl) rfl hI ?_
  clear hI
  intro b50 _ hI
  refine o_eff 3 _ rfl (by kernel_rfl) ?_
  refine e_store 32 _ _ 3 b50 32 [.int .i64 0, .int .i64 0] [.int .i64 3, .int .i64 4] 0 (.agg #[.int .i64 3, .int .i64 4]) rfl (by kernel_rfl) (by kernel_rfl) (by kernel_rfl) (by kernel_rfl) hI rfl (by kernel_rfl) (by kernel_rfl) ?_
  clear hI
  intro _ hI
  refine r_out (by kernel_rfl) ?_
  refine go_seq ?_
  refine r_in ?_
  refine o_batch 0 [(b50, 0, [.int .i64 3, .int .i64 4])] [.p, .l 0 0, .p, .p] [(19, .pointer (some ⟨b50, 0, none⟩)), (20, .int .i64 3), (21, .int .i64 5), (22, .bool false)] [] ⟨(hI.grp 3 rfl), trivial⟩ trivial (by kernel_rfl) (by kernel_rfl) (by kernel_rfl) ?_
  refine r_out (by kernel_rfl) ?_
  refine go_else (by kernel_rfl) ?_
  refine go_skip ?_
  refine go_inBlock ?_
  refine r_in ?_
  refine o_batch 0 [] [.p, .p] [(32, .int .i64 4), (15, .int .i64 4)] [] trivial trivial (by kernel_rfl) (by kernel_rfl) (by kernel_rfl) ?_
  refine r_out (by kernel_rfl) ?_
  refine go_again ?_
  refine go_gen [(0, .pointer (some ⟨b1, 0, none⟩)), (1, .pointer (some ⟨b2, 0, none⟩)), (2, .int .i64 5), (13, .slice (some ⟨b46, 0, none⟩) level_Pairs_lit.length c45), (14, .int .i64 (level_Pairs_lit.length : Int)), (15, .int .i64 4)] (by kernel_rfl) ?_
  intro _
  replace hI := hI.pick (L' := [.blk b1 42 [.int .u16 0, .int .u16 0, .int .u16 0, .int .u16 0, .int .u16 0, .int .u16 0, .int .u16 0, .int .u16 0, .int .u16 0], .blk b2 42 [.int .u16 0, .int .u16 0, .int .u16 0, .int .u16 0, .int .u16 0, .int .u16 32, .int .u16 448, .int .u16 384, .int .u16 256], .row (Ty.flat 2 (fun x : Int × Int => [.int .i64 x.1, .int .i64 x.2]) (fun _ => rfl) (fun _ => oneAll rfl)) 32 (some ⟨b46, 0, none⟩) level_Pairs_lit.length c45 level_Pairs_lit]) [0, 1, 2] (by decide) rfl
  refine go_seq ?_
  refine r_in ?_
  refine o_batch 0 [] [.p] [(16, .bool true)] [] trivial trivial (by kernel_rfl) (by kernel_rfl) (by kernel_rfl) ?_
  refine r_out (by kernel_rfl) ?_
  refine go_seq ?_
  refine go_then (by kernel_rfl) ?_
  refine go_skip ?_
  refine go_seq ?_
  refine go_block ?_
  refine go_seq ?_
  refine r_in ?_
  refine o_batch 0 [(b46, 0 + (4 : Int).toNat * 2, [.int .i64 4, .int .i64 5])] [.x, .l 0 0] [(17, .pointer (some ⟨b46, 0 + (4 : Int).toNat * 2, none⟩)), (18, .agg #[.int .i64 4, .int .i64 5])] [(4, level_Pairs_lit.length)] ⟨(rdS.flook (hI.row 2 rfl) (hI.rowlen 2 rfl) (by decide : 0 ≤ (4 : Int) ∧ (4 : Int) < (level_Pairs_lit.length : Int))).ok, trivial⟩ ⟨(by decide : 0 ≤ (4 : Int) ∧ (4 : Int) < (level_Pairs_lit.length : Int)), trivial⟩ (by kernel_rfl) (by kernel_rfl) (by kernel_rfl) ?_
  refine o_eff 2 _ rfl (by kernel_rfl) ?_
  refine e_alloc 32 (.agg #[.int .i64 0, .int .i64 0]) [.int .i64 0, .int .i64 0] rfl (by kernel_rfl) rfl hI ?_
  clear hI
  intro b51 _ hI
  refine o_eff 3 _ rfl (by kernel_rfl) ?_
  refine e_store 32 _ _ 3 b51 32 [.int .i64 0, .int .i64 0] [.int .i64 4, .int .i64 5] 0 (.agg #[.int .i64 4, .int .i64 5]) rfl (by kernel_rfl) (by kernel_rfl) (by kernel_rfl) (by kernel_rfl) hI rfl (by kernel_rfl) (by kernel_rfl) ?_
  clear hI
  intro _ hI
  refine r_out (by kernel_rfl) ?_
  refine go_seq ?_
  refine r_in ?_
  refine o_batch 0 [(b51, 0, [.int .i64 4, .int .i64 5])] [.p, .l 0 0, .p, .p] [(19, .pointer (some ⟨b51, 0, none⟩)), (20, .int .i64 4), (21, .int .i64 5), (22, .bool false)] [] ⟨(hI.grp 3 rfl), trivial⟩ trivial (by kernel_rfl) (by kernel_rfl) (by kernel_rfl) ?_
  refine r_out (by kernel_rfl) ?_
  refine go_else (by kernel_rfl) ?_
  refine go_skip ?_
  refine go_inBlock ?_
  refine r_in ?_
  refine o_batch 0 [] [.p, .p] [(32, .int .i64 5), (15, .int .i64 5)] [] trivial trivial (by kernel_rfl) (by kernel_rfl) (by kernel_rfl) ?_
  refine r_out (by kernel_rfl) ?_
  refine go_again ?_
  refine go_gen [(0, .pointer (some ⟨b1, 0, none⟩)), (1, .pointer (some ⟨b2, 0, none⟩)), (2, .int .i64 5), (13, .slice (some ⟨b46, 0, none⟩) level_Pairs_lit.length c45), (14, .int .i64 (level_Pairs_lit.length : Int)), (15, .int .i64 5)] (by kernel_rfl) ?_
  intro _
  replace hI := hI.pick (L' := [.blk b1 42 [.int .u16 0, .int .u16 0, .int .u16 0, .int .u16 0, .int .u16 0, .int .u16 0, .int .u16 0, .int .u16 0, .int .u16 0], .blk b2 42 [.int .u16 0, .int .u16 0, .int .u16 0, .int .u16 0, .int .u16 0, .int .u16 32, .int .u16 448, .int .u16 384, .int .u16 256], .row (Ty.flat 2 (fun x : Int × Int => [.int .i64 x.1, .int .i64 x.2]) (fun _ => rfl) (fun _ => oneAll rfl)) 32 (some ⟨b46, 0, none⟩) level_Pairs_lit.length c45 level_Pairs_lit]) [0, 1, 2] (by decide) rfl
  refine go_seq ?_
  refine r_in ?_
  refine o_batch 0 [] [.p] [(16, .bool true)] [] trivial trivial (by kernel_rfl) (by kernel_rfl) (by kernel_rfl) ?_
  refine r_out (by kernel_rfl) ?_
  refine go_seq ?_
  refine go_then (by kernel_rfl) ?_
  refine go_skip ?_
  refine go_seq ?_
  refine go_block ?_
  refine go_seq ?_
  refine r_in ?_
  refine o_batch 0 [(b46, 0 + (5 : Int).toNat * 2, [.int .i64 5, .int .i64 6])] [.x, .l 0 0] [(17, .pointer (some ⟨b46, 0 + (5 : Int).toNat * 2, none⟩)), (18, .agg #[.int .i64 5, .int .i64 6])] [(5, level_Pairs_lit.length)] ⟨(rdS.flook (hI.row 2 rfl) (hI.rowlen 2 rfl) (by decide : 0 ≤ (5 : Int) ∧ (5 : Int) < (level_Pairs_lit.length : Int))).ok, trivial⟩ ⟨(by decide : 0 ≤ (5 : Int) ∧ (5 : Int) < (level_Pairs_lit.length : Int)), trivial⟩ (by kernel_rfl) (by kernel_rfl) (by kernel_rfl) ?_
  refine o_eff 2 _ rfl (by kernel_rfl) ?_
  refine e_alloc 32 (.agg #[.int .i64 0, .int .i64 0]) [.int .i64 0, .int .i64 0] rfl (by kernel_rfl) rfl hI ?_
  clear hI
  intro b52 _ hI
  refine o_eff 3 _ rfl (by kernel_rfl) ?_
  refine e_store 32 _ _ 3 b52 32 [.int .i64 0, .int .i64 0] [.int .i64 5, .int .i64 6] 0 (.agg #[.int .i64 5, .int .i64 6]) rfl (by kernel_rfl) (by kernel_rfl) (by kernel_rfl) (by kernel_rfl) hI rfl (by kernel_rfl) (by kernel_rfl) ?_
  clear hI
  intro _ hI
  refine r_out (by kernel_rfl) ?_
  refine go_seq ?_
  refine r_in ?_
  refine o_batch 0 [(b52, 0, [.int .i64 5, .int .i64 6])] [.p, .l 0 0, .p, .p] [(19, .pointer (some ⟨b52, 0, none⟩)), (20, .int .i64 5), (21, .int .i64 5), (22, .bool true)] [] ⟨(hI.grp 3 rfl), trivial⟩ trivial (by kernel_rfl) (by kernel_rfl) (by kernel_rfl) ?_
  refine r_out (by kernel_rfl) ?_
  refine go_then (by kernel_rfl) ?_
  refine d_tail' 9 _ [(b2, 0, [.int .u16 0, .int .u16 0, .int .u16 0, .int .u16 0, .int .u16 0, .int .u16 32, .int .u16 448, .int .u16 384, .int .u16 256]), (b52, 0, [.int .i64 5, .int .i64 6])] [.p, .p, .l 0 5, .p, .l 1 1, .p, .l 0 6, .p, .p] [(23, .int .i64 5), (24, .pointer (some ⟨b2, 5, none⟩)), (25, .int .u16 32), (26, .pointer (some ⟨b52, 1, none⟩)), (27, .int .i64 6), (28, .pointer (some ⟨b2, 6, none⟩)), (29, .int .u16 448), (30, .int .u16 480), (31, .pointer (some ⟨b2, 5, none⟩))] [] (by kernel_rfl) (by kernel_rfl) rfl rfl ⟨(hI.grp 1 rfl), (hI.grp 3 rfl), trivial⟩ trivial (by kernel_rfl) (by kernel_rfl) (by kernel_rfl) (by kernel_rfl) hI ?_
  clear hI
  intro _ hI hsame
  refine e_store 41 _ _ 1 b2 42 [.int .u16 0, .int .u16 0, .int .u16 0, .int .u16 0, .int .u16 0, .int .u16 32, .int .u16 448, .int .u16 384, .int .u16 256] [.int .u16 0, .int .u16 0, .int .u16 0, .int .u16 0, .int .u16 0, .int .u16 480, .int .u16 448, .int .u16 384, .int .u16 256] 5 (.int .u16 480) rfl (by kernel_rfl) (by kernel_rfl) (by kernel_rfl) (by kernel_rfl) hI rfl (by kernel_rfl) (by kernel_rfl) ?_
  clear hI
  intro _ hI
  refine go_inBlock ?_
  refine r_in ?_
  refine o_batch 0 [] [.p, .p] [(32, .int .i64 6), (15, .int .i64 6)] [] trivial trivial (by kernel_rfl) (by kernel_rfl) (by kernel_rfl) ?_
  refine r_out (by kernel_rfl) ?_
  refine go_again ?_
  refine go_gen [(0, .pointer (some ⟨b1, 0, none⟩)), (1, .pointer (some ⟨b2, 0, none⟩)), (2, .int .i64 5), (13, .slice (some ⟨b46, 0, none⟩) level_Pairs_lit.length c45), (14, .int .i64 (level_Pairs_lit.length : Int)), (15, .int .i64 6)] (by kernel_rfl) ?_
  intro _
  replace hI := hI.pick (L' := [.blk b1 42 [.int .u16 0, .int .u16 0, .int .u16 0, .int .u16 0, .int .u16 0, .int .u16 0, .int .u16 0, .int .u16 0, .int .u16 0], .blk b2 42 [.int .u16 0, .int .u16 0, .int .u16 0, .int .u16 0, .int .u16 0, .int .u16 480, .int .u16 448, .int .u16 384, .int .u16 256], .row (Ty.flat 2 (fun x : Int × Int => [.int .i64 x.1, .int .i64 x.2]) (fun _ => rfl) (fun _ => oneAll rfl)) 32 (some ⟨b46, 0, none⟩) level_Pairs_lit.length c45 level_Pairs_lit]) [0, 1, 2] (by decide) rfl
  refine go_seq ?_
  refine r_in ?_
  refine o_batch 0 [] [.p] [(16, .bool true)] [] trivial trivial (by kernel_rfl) (by kernel_rfl) (by kernel_rfl) ?_
  refine r_out (by kernel_rfl) ?_
  refine go_seq ?_
  refine go_then (by kernel_rfl) ?_
  refine go_skip ?_
  refine go_seq ?_
  refine go_block ?_
  refine go_seq ?_
  refine r_in ?_
  refine o_batch 0 [(b46, 0 + (6 : Int).toNat * 2, [.int .i64 6, .int .i64 7])] [.x, .l 0 0] [(17, .pointer (some ⟨b46, 0 + (6 : Int).toNat * 2, none⟩)), (18, .agg #[.int .i64 6, .int .i64 7])] [(6, level_Pairs_lit.length)] ⟨(rdS.flook (hI.row 2 rfl) (hI.rowlen 2 rfl) (by decide : 0 ≤ (6 : Int) ∧ (6 : Int) < (level_Pairs_lit.length : Int))).ok, trivial⟩ ⟨(by decide : 0 ≤ (6 : Int) ∧ (6 : Int) < (level_Pairs_lit.length : Int)), trivial⟩ (by kernel_rfl) (by kernel_rfl) (by kernel_rfl) ?_
  refine o_eff 2 _ rfl (by kernel_rfl) ?_
  refine e_alloc 32 (.agg #[.int .i64 0, .int .i64 0]) [.int .i64 0, .int .i64 0] rfl (by kernel_rfl) rfl hI ?_
  clear hI
  intro b53 _ hI
  refine o_eff 3 _ rfl (by kernel_rfl) ?_
  refine e_store 32 _ _ 3 b53 32 [.int .i64 0, .int .i64 0] [.int .i64 6, .int .i64 7] 0 (.agg #[.int .i64 6, .int .i64 7]) rfl (by kernel_rfl) (by kernel_rfl) (by kernel_rfl) (by kernel_rfl) hI rfl (by kernel_rfl) (by kernel_rfl) ?_
  clear hI
  intro _ hI
  refine r_out (by kernel_rfl) ?_
  refine go_seq ?_
  refine r_in ?_
  refine o_batch 0 [(b53, 0, [.int .i64 6, .int .i64 7])] [.p, .l 0 0, .p, .p] [(19, .pointer (some ⟨b53, 0, none⟩)), (20, .int .i64 6), (21, .int .i64 5), (22, .bool false)] [] ⟨(hI.grp 3 rfl), trivial⟩ trivial (by kernel_rfl) (by kernel_rfl) (by kernel_rfl) ?_
  refine r_out (by kernel_rfl) ?_
  refine go_else (by kernel_rfl) ?_
  refine go_skip ?_
  refine go_inBlock ?_
  refine r_in ?_
  refine o_batch 0 [] [.p, .p] [(32, .int .i64 7), (15, .int .i64 7)] [] trivial trivial (by kernel_rfl) (by kernel_rfl) (by kernel_rfl) ?_
  refine r_out (by kernel_rfl) ?_
  refine go_again ?_
  refine go_gen [(0, .pointer (some ⟨b1, 0, none⟩)), (1, .pointer (some ⟨b2, 0, none⟩)), (2, .int .i64 5), (13, .slice (some ⟨b46, 0, none⟩) level_Pairs_lit.length c45), (14, .int .i64 (level_Pairs_lit.length : Int)), (15, .int .i64 7)] (by kernel_rfl) ?_
  intro _
  replace hI := hI.pick (L' := [.blk b1 42 [.int .u16 0, .int .u16 0, .int .u16 0, .int .u16 0, .int .u16 0, .int .u16 0, .int .u16 0, .int .u16 0, .int .u16 0], .blk b2 42 [.int .u16 0, .int .u16 0, .int .u16 0, .int .u16 0, .int .u16 0, .int .u16 480, .int .u16 448, .int .u16 384, .int .u16 256], .row (Ty.flat 2 (fun x : Int × Int => [.int .i64 x.1, .int .i64 x.2]) (fun _ => rfl) (fun _ => oneAll rfl)) 32 (some ⟨b46, 0, none⟩) level_Pairs_lit.length c45 level_Pairs_lit]) [0, 1, 2] (by decide) rfl
  refine go_seq ?_
  refine r_in ?_
  refine o_batch 0 [] [.p] [(16, .bool true)] [] trivial trivial (by kernel_rfl) (by kernel_rfl) (by kernel_rfl) ?_
  refine r_out (by kernel_rfl) ?_
  refine go_seq ?_
  refine go_then (by kernel_rfl) ?_
  refine go_skip ?_
  refine go_seq ?_
  refine go_block ?_
  refine go_seq ?_
  refine r_in ?_
  refine o_batch 0 [(b46, 0 + (7 : Int).toNat * 2, [.int .i64 7, .int .i64 8])] [.x, .l 0 0] [(17, .pointer (some ⟨b46, 0 + (7 : Int).toNat * 2, none⟩)), (18, .agg #[.int .i64 7, .int .i64 8])] [(7, level_Pairs_lit.length)] ⟨(rdS.flook (hI.row 2 rfl) (hI.rowlen 2 rfl) (by decide : 0 ≤ (7 : Int) ∧ (7 : Int) < (level_Pairs_lit.length : Int))).ok, trivial⟩ ⟨(by decide : 0 ≤ (7 : Int) ∧ (7 : Int) < (level_Pairs_lit.length : Int)), trivial⟩ (by kernel_rfl) (by kernel_rfl) (by kernel_rfl) ?_
  refine o_eff 2 _ rfl (by kernel_rfl) ?_
  refine e_alloc 32 (.agg #[.int .i64 0, .int .i64 0]) [.int .i64 0, .int .i64 0] rfl (by kernel_rfl) rfl hI ?_
  clear hI
  intro b54 _ hI
  refine o_eff 3 _ rfl (by kernel_rfl) ?_
  refine e_store 32 _ _ 3 b54 32 [.int .i64 0, .int .i64 0] [.int .i64 7, .int .i64 8] 0 (.agg #[.int .i64 7, .int .i64 8]) rfl (by kernel_rfl) (by kernel_rfl) (by kernel_rfl) (by kernel_rfl) hI rfl (by kernel_rfl) (by kernel_rfl) ?_
  clear hI
  intro _ hI
  refine r_out (by kernel_rfl) ?_
  refine go_seq ?_
  refine r_in ?_
  refine o_batch 0 [(b54, 0, [.int .i64 7, .int .i64 8])] [.p, .l 0 0, .p, .p] [(19, .pointer (some ⟨b54, 0, none⟩)), (20, .int .i64 7), (21, .int .i64 5), (22, .bool false)] [] ⟨(hI.grp 3 rfl), trivial⟩ trivial (by kernel_rfl) (by kernel_rfl) (by kernel_rfl) ?_
  refine r_out (by kernel_rfl) ?_
  refine go_else (by kernel_rfl) ?_
  refine go_skip ?_
  refine go_inBlock ?_
  refine r_in ?_
  refine o_batch 0 [] [.p, .p] [(32, .int .i64 8), (15, .int .i64 8)] [] trivial trivial (by kernel_rfl) (by kernel_rfl) (by kernel_rfl) ?_
  refine r_out (by kernel_rfl) ?_
  refine go_again ?_
  refine go_gen [(0, .pointer (some ⟨b1, 0, none⟩)), (1, .pointer (some ⟨b2, 0, none⟩)), (2, .int .i64 5), (13, .slice (some ⟨b46, 0, none⟩) level_Pairs_lit.length c45), (14, .int .i64 (level_Pairs_lit.length : Int)), (15, .int .i64 8)] (by kernel_rfl) ?_
  intro _
  replace hI := hI.pick (L' := [.blk b1 42 [.int .u16 0, .int .u16 0, .int .u16 0, .int .u16 0, .int .u16 0, .int .u16 0, .int .u16 0, .int .u16 0, .int .u16 0], .blk b2 42 [.int .u16 0, .int .u16 0, .int .u16 0, .int .u16 0, .int .u16 0, .int .u16 480, .int .u16 448, .int .u16 384, .int .u16 256], .row (Ty.flat 2 (fun x : Int × Int => [.int .i64 x.1, .int .i64 x.2]) (fun _ => rfl) (fun _ => oneAll rfl)) 32 (some ⟨b46, 0, none⟩) level_Pairs_lit.length c45 level_Pairs_lit]) [0, 1, 2] (by decide) rfl
  refine go_seq ?_
  refine r_in ?_
  refine o_batch 0 [] [.p] [(16, .bool false)] [] trivial trivial (by kernel_rfl) (by kernel_rfl) (by kernel_rfl) ?_
  refine r_out (by kernel_rfl) ?_
  refine go_seq ?_
  refine go_else (by kernel_rfl) ?_
  refine go_exit rfl ?_
  refine go_inBlock ?_
  refine r_in ?_
  refine o_batch 0 [] [.p, .p, .p] [(7, .int .i64 5), (8, .int .i64 4), (2, .int .i64 4)] [] trivial trivial (by kernel_rfl) (by kernel_rfl) (by kernel_rfl) ?_
  refine r_out (by kernel_rfl) ?_
  refine go_again ?_
  refine go_gen [(0, .pointer (some ⟨b1, 0, none⟩)), (1, .pointer (some ⟨b2, 0, none⟩)), (2, .int .i64 4)] (by kernel_rfl) ?_
  intro _
  replace hI := hI.pick (L' := [.blk b1 42 [.int .u16 0, .int .u16 0, .int .u16 0, .int .u16 0, .int .u16 0, .int .u16 0, .int .u16 0, .int .u16 0, .int .u16 0], .blk b2 42 [.int .u16 0, .int .u16 0, .int .u16 0, .int .u16 0, .int .u16 0, .int .u16 480, .int .u16 448, .int .u16 384, .int .u16 256]]) [0, 1] (by decide) rfl
  refine go_seq ?_
  refine go_seq ?_
  refine r_in ?_
  refine o_batch 0 [] [.p, .p] [(5, .int .i64 4), (6, .bool true)] [] trivial trivial (by kernel_rfl) (by kernel_rfl) (by kernel_rfl) ?_
  refine r_out (by kernel_rfl) ?_
  refine go_then (by kernel_rfl) ?_
  refine go_skip ?_
  refine go_seq ?_
  refine go_block ?_
  refine go_seq ?_
  refine r_in ?_
  refine o_batch 0 [] [.p, .p, .x, .p] [(9, .int .i64 4), (10, .int .i64 4), (11, .int .u16 16), (12, .pointer (some ⟨b2, 4, none⟩))] [(4, far)] trivial ⟨(by decide), trivial⟩ (by kernel_rfl) (by kernel_rfl) (by kernel_rfl) ?_
  refine o_eff 4 _ rfl (by kernel_rfl) ?_
  refine e_store 41 _ _ 1 b2 42 [.int .u16 0, .int .u16 0, .int .u16 0, .int .u16 0, .int .u16 0, .int .u16 480, .int .u16 448, .int .u16 384, .int .u16 256] [.int .u16 0, .int .u16 0, .int .u16 0, .int .u16 0, .int .u16 16, .int .u16 480, .int .u16 448, .int .u16 384, .int .u16 256] 4 (.int .u16 16) rfl (by kernel_rfl) (by kernel_rfl) (by kernel_rfl) (by kernel_rfl) hI rfl (by kernel_rfl) (by kernel_rfl) ?_
  clear hI
  intro _ hI
  refine r_out (by kernel_rfl) ?_
  refine go_seq ?_
  refine r_in ?_
  replace H := bind_some H
  obtain ⟨y55, hy56, H⟩ := H
  have hyc : y55 = level_Pairs_lit := (Option.some.inj hy56).symm
  subst hyc
  refine o_eff 0 _ rfl (by kernel_rfl) ?_
  refine e_callf _ _ _ 14 #[] #[] #[] #[] rfl (by kernel_rfl) (by kernel_rfl) (by kernel_rfl) (enter14 _) (level_Pairs_calls (memOf _) _ (Inv.start _) _ hy56) ?_
  rintro _ _ ⟨A57, c58, rfl, hI'⟩
  replace hI := hI.call0 hI'
  clear hI'
  refine ⟨_, rfl, ?_⟩
  refine o_batch 1 [] [.p, .p] [(14, .int .i64 (level_Pairs_lit.length : Int)), (15, .int .i64 0)] [] trivial trivial (by kernel_rfl) (by kernel_rfl) (by kernel_rfl) ?_
  refine r_out (by kernel_rfl) ?_
  refine go_block ?_
  refine go_loop ?_
  refine go_seq ?_
  refine r_in ?_
  refine o_batch 0 [] [.p] [(16, .bool true)] [] trivial trivial (by kernel_rfl) (by kernel_rfl) (by kernel_rfl) ?_
  refine r_out (by kernel_rfl) ?_
  refine go_seq ?_
  refine go_then (by kernel_rfl) ?_
  refine go_skip ?_
  refine go_seq ?_
  refine go_block ?_
  refine go_seq ?_
  refine r_in ?_
  obtain ⟨b59, rfl⟩ := hI.rowAt 2 rfl (by decide : 0 ≤ (0 : Int) ∧ (0 : Int) < (level_Pairs_lit.length : Int))
  refine o_batch 0 [(b59, 0 + (0 : Int).toNat * 2, [.int .i64 1, .int .i64 2])] [.x, .l 0 0] [(17, .pointer (some ⟨b59, 0 + (0 : Int).toNat * 2, none⟩)), (18, .agg #[.int .i64 1, .int .i64 2])] [(0, level_Pairs_lit.length)] ⟨(rdS.flook (hI.row 2 rfl) (hI.rowlen 2 rfl) (by decide : 0 ≤ (0 : Int) ∧ (0 : Int) < (level_Pairs_lit.length : Int))).ok, trivial⟩ ⟨(by decide : 0 ≤ (0 : Int) ∧ (0 : Int) < (level_Pairs_lit.length : Int)), trivial⟩ (by kernel_rfl) (by kernel_rfl) (by kernel_rfl) ?_
  refine o_eff 2 _ rfl (by kernel_rfl) ?_
  refine e_alloc 32 (.agg #[.int .i64 0, .int .i64 0]) [.int .i64 0, .int .i64 0] rfl (by kernel_rfl) rfl hI ?_
  clear hI
  intro b60 _ hI
  refine o_eff 3 _ rfl (by kernel_rfl) ?_
  refine e_store 32 _ _ 3 b60 32 [.int .i64 0, .int .i64 0] [.int .i64 1, .int .i64 2] 0 (.agg #[.int .i64 1, .int .i64 2]) rfl (by kernel_rfl) (by kernel_rfl) (by kernel_rfl) (by kernel_rfl) hI rfl (by kernel_rfl) (by kernel_rfl) ?_
  clear hI
  intro _ hI
  refine r_out (by kernel_rfl) ?_
  refine go_seq ?_
  refine r_in ?_
  refine o_batch 0 [(b60, 0, [.int .i64 1, .int .i64 2])] [.p, .l 0 0, .p, .p] [(19, .pointer (some ⟨b60, 0, none⟩)), (20, .int .i64 1), (21, .int .i64 4), (22, .bool false)] [] ⟨(hI.grp 3 rfl), trivial⟩ trivial (by kernel_rfl) (by kernel_rfl) (by kernel_rfl) ?_
  refine r_out (by kernel_rfl) ?_
  refine go_else (by kernel_rfl) ?_
  refine go_skip ?_
  refine go_inBlock ?_
  refine r_in ?_
  refine o_batch 0 [] [.p, .p] [(32, .int .i64 1), (15, .int .i64 1)] [] trivial trivial (by kernel_rfl) (by kernel_rfl) (by kernel_rfl) ?_
  refine r_out (by kernel_rfl) ?_
  refine go_again ?_
  refine go_gen [(0, .pointer (some ⟨b1, 0, none⟩)), (1, .pointer (some ⟨b2, 0, none⟩)), (2, .int .i64 4), (13, .slice (some ⟨b59, 0, none⟩) level_Pairs_lit.length c58), (14, .int .i64 (level_Pairs_lit.length : Int)), (15, .int .i64 1)] (by kernel_rfl) ?_
  intro _
  replace hI := hI.pick (L' := [.blk b1 42 [.int .u16 0, .int .u16 0, .int .u16 0, .int .u16 0, .int .u16 0, .int .u16 0, .int .u16 0, .int .u16 0, .int .u16 0], .blk b2 42 [.int .u16 0, .int .u16 0, .int .u16 0, .int .u16 0, .int .u16 16, .int .u16 480, .int .u16 448, .int .u16 384, .int .u16 256], .row (Ty.flat 2 (fun x : Int × Int => [.int .i64 x.1, .int .i64 x.2]) (fun _ => rfl) (fun _ => oneAll rfl)) 32 (some ⟨b59, 0, none⟩) level_Pairs_lit.length c58 level_Pairs_lit]) [0, 1, 2] (by decide) rfl
  refine go_seq ?_
  refine r_in ?_
  refine o_batch 0 [] [.p] [(16, .bool true)] [] trivial trivial (by kernel_rfl) (by kernel_rfl) (by kernel_rfl) ?_
  refine r_out (by kernel_rfl) ?_
  refine go_seq ?_
  refine go_then (by kernel_rfl) ?_
  refine go_skip ?_
  refine go_seq ?_
  refine go_block ?_
  refine go_seq ?_
  refine r_in ?_
  refine o_batch 0 [(b59, 0 + (1 : Int).toNat * 2, [.int .i64 2, .int .i64 6])] [.x, .l 0 0] [(17, .pointer (some ⟨b59, 0 + (1 : Int).toNat * 2, none⟩)), (18, .agg #[.int .i64 2, .int .i64 6])] [(1, level_Pairs_lit.length)] ⟨(rdS.flook (hI.row 2 rfl) (hI.rowlen 2 rfl) (by decide : 0 ≤ (1 : Int) ∧ (1 : Int) < (level_Pairs_lit.length : Int))).ok, trivial⟩ ⟨(by decide : 0 ≤ (1 : Int) ∧ (1 : Int) < (level_Pairs_lit.length : Int)), trivial⟩ (by kernel_rfl) (by kernel_rfl) (by kernel_rfl) ?_
  refine o_eff 2 _ rfl (by kernel_rfl) ?_
  refine e_alloc 32 (.agg #[.int .i64 0, .int .i64 0]) [.int .i64 0, .int .i64 0] rfl (by kernel_rfl) rfl hI ?_
  clear hI
  intro b61 _ hI
  refine o_eff 3 _ rfl (by kernel_rfl) ?_
  refine e_store 32 _ _ 3 b61 32 [.int .i64 0, .int .i64 0] [.int .i64 2, .int .i64 6] 0 (.agg #[.int .i64 2, .int .i64 6]) rfl (by kernel_rfl) (by kernel_rfl) (by kernel_rfl) (by kernel_rfl) hI rfl (by kernel_rfl) (by kernel_rfl) ?_
  clear hI
  intro _ hI
  refine r_out (by kernel_rfl) ?_
  refine go_seq ?_
  refine r_in ?_
  refine o_batch 0 [(b61, 0, [.int .i64 2, .int .i64 6])] [.p, .l 0 0, .p, .p] [(19, .pointer (some ⟨b61, 0, none⟩)), (20, .int .i64 2), (21, .int .i64 4), (22, .bool false)] [] ⟨(hI.grp 3 rfl), trivial⟩ trivial (by kernel_rfl) (by kernel_rfl) (by kernel_rfl) ?_
  refine r_out (by kernel_rfl) ?_
  refine go_else (by kernel_rfl) ?_
  refine go_skip ?_
  refine go_inBlock ?_
  refine r_in ?_
  refine o_batch 0 [] [.p, .p] [(32, .int .i64 2), (15, .int .i64 2)] [] trivial trivial (by kernel_rfl) (by kernel_rfl) (by kernel_rfl) ?_
  refine r_out (by kernel_rfl) ?_
  refine go_again ?_
  refine go_gen [(0, .pointer (some ⟨b1, 0, none⟩)), (1, .pointer (some ⟨b2, 0, none⟩)), (2, .int .i64 4), (13, .slice (some ⟨b59, 0, none⟩) level_Pairs_lit.length c58), (14, .int .i64 (level_Pairs_lit.length : Int)), (15, .int .i64 2)] (by kernel_rfl) ?_
  intro _
  replace hI := hI.pick (L' := [.blk b1 42 [.int .u16 0, .int .u16 0, .int .u16 0, .int .u16 0, .int .u16 0, .int .u16 0, .int .u16 0, .int .u16 0, .int .u16 0], .blk b2 42 [.int .u16 0, .int .u16 0, .int .u16 0, .int .u16 0, .int .u16 16, .int .u16 480, .int .u16 448, .int .u16 384, .int .u16 256], .row (Ty.flat 2 (fun x : Int × Int => [.int .i64 x.1, .int .i64 x.2]) (fun _ => rfl) (fun _ => oneAll rfl)) 32 (some ⟨b59, 0, none⟩) level_Pairs_lit.length c58 level_Pairs_lit]) [0, 1, 2] (by decide) rfl
  refine go_seq ?_
  refine r_in ?_
  refine o_batch 0 [] [.p] [(16, .bool true)] [] trivial trivial (by kernel_rfl) (by kernel_rfl) (by kernel_rfl) ?_
  refine r_out (by kernel_rfl) ?_
  refine go_seq ?_
  refine go_then (by kernel_rfl) ?_
  refine go_skip ?_
  refine go_seq ?_
  refine go_block ?_
  refine go_seq ?_
  refine r_in ?_
  refine o_batch 0 [(b59, 0 + (2 : Int).toNat * 2, [.int .i64 1, .int .i64 3])] [.x, .l 0 0] [(17, .pointer (some ⟨b59, 0 + (2 : Int).toNat * 2, none⟩)), (18, .agg #[.int .i64 1, .int .i64 3])] [(2, level_Pairs_lit.length)] ⟨(rdS.flook (hI.row 2 rfl) (hI.rowlen 2 rfl) (by decide : 0 ≤ (2 : Int) ∧ (2 : Int) < (level_Pairs_lit.length : Int))).ok, trivial⟩ ⟨(by decide : 0 ≤ (2 : Int) ∧ (2 : Int) < (level_Pairs_lit.length : Int)), trivial⟩ (by kernel_rfl) (by kernel_rfl) (by kernel_rfl) ?_
  refine o_eff 2 _ rfl (by kernel_rfl) ?_
  refine e_alloc 32 (.agg #[.int .i64 0, .int .i64 0]) [.int .i64 0, .int .i64 0] rfl (by kernel_rfl) rfl hI ?_
  clear hI
  intro b62 _ hI
  refine o_eff 3 _ rfl (by kernel_rfl) ?_
  refine e_store 32 _ _ 3 b62 32 [.int .i64 0, .int .i64 0] [.int .i64 1, .int .i64 3] 0 (.agg #[.int .i64 1, .int .i64 3]) rfl (by kernel_rfl) (by kernel_rfl) (by kernel_rfl) (by kernel_rfl) hI rfl (by kernel_rfl) (by kernel_rfl) ?_
  clear hI
  intro _ hI
  refine r_out (by kernel_rfl) ?_
  refine go_seq ?_
  refine r_in ?_
  refine o_batch 0 [(b62, 0, [.int .i64 1, .int .i64 3])] [.p, .l 0 0, .p, .p] [(19, .pointer (some ⟨b62, 0, none⟩)), (20, .int .i64 1), (21, .int .i64 4), (22, .bool false)] [] ⟨(hI.grp 3 rfl), trivial⟩ trivial (by kernel_rfl) (by kernel_rfl) (by kernel_rfl) ?_
  refine r_out (by kernel_rfl) ?_
  refine go_else (by kernel_rfl) ?_
  refine go_skip ?_
  refine go_inBlock ?_
  refine r_in ?_
  refine o_batch 0 [] [.p, .p] [(32, .int .i64 3), (15, .int .i64 3)] [] trivial trivial (by kernel_rfl) (by kernel_rfl) (by kernel_rfl) ?_
  refine r_out (by kernel_rfl) ?_
  refine go_again ?_
  refine go_gen [(0, .pointer (some ⟨b1, 0, none⟩)), (1, .pointer (some ⟨b2, 0, none⟩)), (2, .int .i64 4), (13, .slice (some ⟨b59, 0, none⟩) level_Pairs_lit.length c58), (14, .int .i64 (level_Pairs_lit.length : Int)), (15, .int .i64 3)] (by kernel_rfl) ?_
  intro _
  replace hI := hI.pick (L' := [.blk b1 42 [.int .u16 0, .int .u16 0, .int .u16 0, .int .u16 0, .int .u16 0, .int .u16 0, .int .u16 0, .int .u16 0, .int .u16 0], .blk b2 42 [.int .u16 0, .int .u16 0, .int .u16 0, .int .u16 0, .int .u16 16, .int .u16 480, .int .u16 448, .int .u16 384, .int .u16 256], .row (Ty.flat 2 (fun x : Int × Int => [.int .i64 x.1, .int .i64 x.2]) (fun _ => rfl) (fun _ => oneAll rfl)) 32 (some ⟨b59, 0, none⟩) level_Pairs_lit.length c58 level_Pairs_lit]) [0, 1, 2] (by decide) rfl
  refine go_seq ?_
  refine r_in ?_
  refine o_batch 0 [] [.p] [(16, .bool true)] [] trivial trivial (by kernel_rfl) (by kernel_rfl) (by kernel_rfl) ?_
  refine r_out (by kernel_rfl) ?_
  refine go_seq ?_
  refine go_then (by kernel_rfl) ?_
  refine go_skip ?_
  refine go_seq ?_
  refine go_block ?_
  refine go_seq ?_
  refine r_in ?_
  refine o_batch 0 [(b59, 0 + (3 : Int).toNat * 2, [.int .i64 3, .int .i64 4])] [.x, .l 0 0] [(17, .pointer (some ⟨b59, 0 + (3 : Int).toNat * 2, none⟩)), (18, .agg #[.int .i64 3, .int .i64 4])] [(3, level_Pairs_lit.length)] ⟨(rdS.flook (hI.row 2 rfl) (hI.rowlen 2 rfl) (by decide : 0 ≤ (3 : Int) ∧ (3 : Int) < (level_Pairs_lit.length : Int))).ok, trivial⟩ ⟨(by decide : 0 ≤ (3 : Int) ∧ (3 : Int) < (level_Pairs_lit.length : Int)), trivial⟩ (by kernel_rfl) (by kernel_rfl) (by kernel_rfl) ?_
  refine o_eff 2 _ rfl (by kernel_rfl) ?_
  refine e_alloc 32 (.agg #[.int .i64 0, .int .i64 0]) [.int .i64 0, .int .i64 0] rfl (by kernel_rfl) rfl hI ?_
  clear hI
  intro b63 _ hI
  refine o_eff 3 _ rfl (by kernel_rfl) ?_
  refine e_store 32 _ _ 3 b63 32 [.int .i64 0, .int .i64 0] [.int .i64 3, .int .i64 4] 0 (.agg #[.int .i64 3, .int .i64 4]) rfl (by kernel_rfl) (by kernel_rfl) (by kernel_rfl) (by kernel_rfl) hI rfl (by kernel_rfl) (by kernel_rfl) ?_
  clear hI
  intro _ hI
  refine r_out (by kernel_rfl) ?_
  refine go_seq ?_
  refine r_in ?_
  refine o_batch 0 [(b63, 0, [.int .i64 3, .int .i64 4])] [.p, .l 0 0, .p, .p] [(19, .pointer (some ⟨b63, 0, none⟩)), (20, .int .i64 3), (21, .int .i64 4), (22, .bool false)] [] ⟨(hI.grp 3 rfl), trivial⟩ trivial (by kernel_rfl) (by kernel_rfl) (by kernel_rfl) ?_
  refine r_out (by kernel_rfl) ?_
  refine go_else (by kernel_rfl) ?_
  refine go_skip ?_
  refine go_inBlock ?_
  refine r_in ?_
  refine o_batch 0 [] [.p, .p] [(32, .int .i64 4), (15, .int .i64 4)] [] trivial trivial (by kernel_rfl) (by kernel_rfl) (by kernel_rfl) ?_
  refine r_out (by kernel_rfl) ?_
  refine go_again ?_
  refine go_gen [(0, .pointer (some ⟨b1, 0, none⟩)), (1, .pointer (some ⟨b2, 0, none⟩)), (2, .int .i64 4), (13, .slice (some ⟨b59, 0, none⟩) level_Pairs_lit.length c58), (14, .int .i64 (level_Pairs_lit.length : Int)), (15, .int .i64 4)] (by kernel_rfl) ?_
  intro _
  replace hI := hI.pick (L' := [.blk b1 42 [.int .u16 0, .int .u16 0, .int .u16 0, .int .u16 0, .int .u16 0, .int .u16 0, .int .u16 0, .int .u16 0, .int .u16 0], .blk b2 42 [.int .u16 0, .int .u16 0, .int .u16 0, .int .u16 0, .int .u16 16, .int .u16 480, .int .u16 448, .int .u16 384, .int .u16 256], .row (Ty.flat 2 (fun x : Int × Int => [.int .i64 x.1, .int .i64 x.2]) (fun _ => rfl) (fun _ => oneAll rfl)) 32 (some ⟨b59, 0, none⟩) level_Pairs_lit.length c58 level_Pairs_lit]) [0, 1, 2] (by decide) rfl
  refine go_seq ?_
  refine r_in ?_
  refine o_batch 0 [] [.p] [(16, .bool true)] [] trivial trivial (by kernel_rfl) (by kernel_rfl) (by kernel_rfl) ?_
  refine r_out (by kernel_rfl) ?_
  refine go_seq ?_
  refine go_then (by kernel_rfl) ?_
  refine go_skip ?_
  refine go_seq ?_
  refine go_block ?_
  refine go_seq ?_
  refine r_in ?_
  refine o_batch 0 [(b59, 0 + (4 : Int).toNat * 2, [.int .i64 4, .int .i64 5])] [.x, .l 0 0] [(17, .pointer (some ⟨b59, 0 + (4 : Int).toNat * 2, none⟩)), (18, .agg #[.int .i64 4, .int .i64 5])] [(4, level_Pairs_lit.length)] ⟨(rdS.flook (hI.row 2 rfl) (hI.rowlen 2 rfl) (by decide : 0 ≤ (4 : Int) ∧ (4 : Int) < (level_Pairs_lit.length : Int))).ok, trivial⟩ ⟨(by decide : 0 ≤ (4 : Int) ∧ (4 : Int) < (level_Pairs_lit.length : Int)), trivial⟩ (by kernel_rfl) (by kernel_rfl) (by kernel_rfl) ?_
  refine o_eff 2 _ rfl (by kernel_rfl) ?_
  refine e_alloc 32 (.agg #[.int .i64 0, .int .i64 0]) [.int .i64 0, .int .i64 0] rfl (by kernel_rfl) rfl hI ?_
  clear hI
  intro b64 _ hI
  refine o_eff 3 _ rfl (by kernel_rfl) ?_
  refine e_store 32 _ _ 3 b64 32 [.int .i64 0, .int .i64 0] [.int .i64 4, .int .i64 5] 0 (.agg #[.int .i64 4, .int .i64 5]) rfl (by kernel_rfl) (by kernel_rfl) (by kernel_rfl) (by kernel_rfl) hI rfl (by kernel_rfl) (by kernel_rfl) ?_
  clear hI
  intro _ hI
  refine r_out (by kernel_rfl) ?_
  refine go_seq ?_
  refine r_in ?_
  refine o_batch 0 [(b64, 0, [.int .i64 4, .int .i64 5])] [.p, .l 0 0, .p, .p] [(19, .pointer (some ⟨b64, 0, none⟩)), (20, .int .i64 4), (21, .int .i64 4), (22, .bool true)] [] ⟨(hI.grp 3 rfl), trivial⟩ trivial (by kernel_rfl) (by kernel_rfl) (by kernel_rfl) ?_
  refine r_out (by kernel_rfl) ?_
  refine go_then (by kernel_rfl) ?_
  refine d_tail' 9 _ [(b2, 0, [.int .u16 0, .int .u16 0, .int .u16 0, .int .u16 0, .int .u16 16, .int .u16 480, .int .u16 448, .int .u16 384, .int .u16 256]), (b64, 0, [.int .i64 4, .int .i64 5])] [.p, .p, .l 0 4, .p, .l 1 1, .p, .l 0 5, .p, .p] [(23, .int .i64 4), (24, .pointer (some ⟨b2, 4, none⟩)), (25, .int .u16 16), (26, .pointer (some ⟨b64, 1, none⟩)), (27, .int .i64 5), (28, .pointer (some ⟨b2, 5, none⟩)), (29, .int .u16 480), (30, .int .u16 496), (31, .pointer (some ⟨b2, 4, none⟩))] [] (by kernel_rfl) (by kernel_rfl) rfl rfl ⟨(hI.grp 1 rfl), (hI.grp 3 rfl), trivial⟩ trivial (by kernel_rfl) (by kernel_rfl) (by kernel_rfl) (by kernel_rfl) hI ?_
  clear hI
  intro _ hI hsame
  refine e_store 41 _ _ 1 b2 42 [.int .u16 0, .int .u16 0, .int .u16 0, .int .u16 0, .int .u16 16, .int .u16 480, .int .u16 448, .int .u16 384, .int .u16 256] [.int .u16 0, .int .u16 0, .int .u16 0, .int .u16 0, .int .u16 496, .int .u16 480, .int .u16 448, .int .u16 384, .int .u16 256] 4 (.int .u16 496) rfl (by kernel_rfl) (by kernel_rfl) (by kernel_rfl) (by kernel_rfl) hI rfl (by kernel_rfl) (by kernel_rfl) ?_
  clear hI
  intro _ hI
  refine go_inBlock ?_
  refine r_in ?_
  refine o_batch 0 [] [.p, .p] [(32, .int .i64 5), (15, .int .i64 5)] [] trivial trivial (by kernel_rfl) (by kernel_rfl) (by kernel_rfl) ?_
  refine r_out (by kernel_rfl) ?_
  refine go_again ?_
  refine go_gen [(0, .pointer (some ⟨b1, 0, none⟩)), (1, .pointer (some ⟨b2, 0, none⟩)), (2, .int .i64 4), (13, .slice (some ⟨b59, 0, none⟩) level_Pairs_lit.length c58), (14, .int .i64 (level_Pairs_lit.length : Int)), (15, .int .i64 5)] (by kernel_rfl) ?_
  intro _
  replace hI := hI.pick (L' := [.blk b1 42 [.int .u16 0, .int .u16 0, .int .u16 0, .int .u16 0, .int .u16 0, .int .u16 0, .int .u16 0, .int .u16 0, .int .u16 0], .blk b2 42 [.int .u16 0, .int .u16 0, .int .u16 0, .int .u16 0, .int .u16 496, .int .u16 480, .int .u16 448, .int .u16 384, .int .u16 256], .row (Ty.flat 2 (fun x : Int × Int => [.int .i64 x.1, .int .i64 x.2]) (fun _ => rfl) (fun _ => oneAll rfl)) 32 (some ⟨b59, 0, none⟩) level_Pairs_lit.length c58 level_Pairs_lit]) [0, 1, 2] (by decide) rfl
  refine go_seq ?_
  refine r_in ?_
  refine o_batch 0 [] [.p] [(16, .bool true)] [] trivial trivial (by kernel_rfl) (by kernel_rfl) (by kernel_rfl) ?_
  refine r_out (by kernel_rfl) ?_
  refine go_seq ?_
  refine go_then (by kernel_rfl) ?_
  refine go_skip ?_
  refine go_seq ?_
  refine go_block ?_
  refine go_seq ?_
  refine r_in ?_
  refine o_batch 0 [(b59, 0 + (5 : Int).toNat * 2, [.int .i64 5, .int .i64 6])] [.x, .l 0 0] [(17, .pointer (some ⟨b59, 0 + (5 : Int).toNat * 2, none⟩)), (18, .agg #[.int .i64 5, .int .i64 6])] [(5, level_Pairs_lit.length)] ⟨(rdS.flook (hI.row 2 rfl) (hI.rowlen 2 rfl) (by decide : 0 ≤ (5 : Int) ∧ (5 : Int) < (level_Pairs_lit.length : Int))).ok, trivial⟩ ⟨(by decide : 0 ≤ (5 : Int) ∧ (5 : Int) < (level_Pairs_lit.length : Int)), trivial⟩ (by kernel_rfl) (by kernel_rfl) (by kernel_rfl) ?_
  refine o_eff 2 _ rfl (by kernel_rfl) ?_
  refine e_alloc 32 (.agg #[.int .i64 0, .int .i64 0]) [.int .i64 0, .int .i64 0] rfl (by kernel_rfl) rfl hI ?_
  clear hI
  intro b65 _ hI
  refine o_eff 3 _ rfl (by kernel_rfl) ?_
  refine e_store 32 _ _ 3 b65 32 [.int .i64 0, .int .i64 0] [.int .i64 5, .int .i64 6] 0 (.agg #[.int .i64 5, .int .i64 6]) rfl (by kernel_rfl) (by kernel_rfl) (by kernel_rfl) (by kernel_rfl) hI rfl (by kernel_rfl) (by kernel_rfl) ?_
  clear hI
  intro _ hI
  refine r_out (by kernel_rfl) ?_
  refine go_seq ?_
  refine r_in ?_
  refine o_batch 0 [(b65, 0, [.int .i64 5, .int .i64 6])] [.p, .l 0 0, .p, .p] [(19, .pointer (some ⟨b65, 0, none⟩)), (20, .int .i64 5), (21, .int .i64 4), (22, .bool false)] [] ⟨(hI.grp 3 rfl), trivial⟩ trivial (by kernel_rfl) (by kernel_rfl) (by kernel_rfl) ?_
  refine r_out (by kernel_rfl) ?_
  refine go_else (by kernel_rfl) ?_
  refine go_skip ?_
  refine go_inBlock ?_
  refine r_in ?_
  refine o_batch 0 [] [.p, .p] [(32, .int .i64 6), (15, .int .i64 6)] [] trivial trivial (by kernel_rfl) (by kernel_rfl) (by kernel_rfl) ?_
  refine r_out (by kernel_rfl) ?_
  refine go_again ?_
  refine go_gen [(0, .pointer (some ⟨b1, 0, none⟩)), (1, .pointer (some ⟨b2, 0, none⟩)), (2, .int .i64 4), (13, .slice (some ⟨b59, 0, none⟩) level_Pairs_lit.length c58), (14, .int .i64 (level_Pairs_lit.length : Int)), (15, .int .i64 6)] (by kernel_rfl) ?_
  intro _
  replace hI := hI.pick (L' := [.blk b1 42 [.int .u16 0, .int .u16 0, .int .u16 0, .int .u16 0, .int .u16 0, .int .u16 0, .int .u16 0, .int .u16 0, .int .u16 0], .blk b2 42 [.int .u16 0, .int .u16 0, .int .u16 0, .int .u16 0, .int .u16 496, .int .u16 480, .int .u16 448, .int .u16 384, .int .u16 256], .row (Ty.flat 2 (fun x : Int × Int => [.int .i64 x.1, .int .i64 x.2]) (fun _ => rfl) (fun _ => oneAll rfl)) 32 (some ⟨b59, 0, none⟩) level_Pairs_lit.length c58 level_Pairs_lit]) [0, 1, 2] (by decide) rfl
  refine go_seq ?_
  refine r_in ?_
  refine o_batch 0 [] [.p] [(16, .bool true)] [] trivial trivial (by kernel_rfl) (by kernel_rfl) (by kernel_rfl) ?_
  refine r_out (by kernel_rfl) ?_
  refine go_seq ?_
  refine go_then (by kernel_rfl) ?_
  refine go_skip ?_
  refine go_seq ?_
  refine go_block ?_
  refine go_seq ?_
  refine r_in ?_
  refine o_batch 0 [(b59, 0 + (6 : Int).toNat * 2, [.int .i64 6, .int .i64 7])] [.x, .l 0 0] [(17, .pointer (some ⟨b59, 0 + (6 : Int).toNat * 2, none⟩)), (18, .agg #[.int .i64 6, .int .i64 7])] [(6, level_Pairs_lit.length)] ⟨(rdS.flook (hI.row 2 rfl) (hI.rowlen 2 rfl) (by decide : 0 ≤ (6 : Int) ∧ (6 : Int) < (level_Pairs_lit.length : Int))).ok, trivial⟩ ⟨(by decide : 0 ≤ (6 : Int) ∧ (6 : Int) < (level_Pairs_lit.length : Int)), trivial⟩ (by kernel_rfl) (by kernel_rfl) (by kernel_rfl) ?_
  refine o_eff 2 _ rfl (by kernel_rfl) ?_
  refine e_alloc 32 (.agg #[.int .i64 0, .int .i64 0]) [.int .i64 0, .int .i64 0] rfl (by kernel_rfl) rfl hI ?_
  clear hI
  intro b66 _ hI
  refine o_eff 3 _ rfl (by kernel_rfl) ?_
  refine e_store 32 _ _ 3 b66 32 [.int .i64 0, .int .i64 0] [.int .i64 6, .int .i64 7] 0 (.agg #[.int .i64 6, .int .i64 7]) rfl (by kernel_rfl) (by kernel_rfl) (by kernel_rfl) (by kernel_rfl) hI rfl (by kernel_rfl) (by kernel_rfl) ?_
  clear hI
  intro _ hI
  refine r_out (by kernel_rfl) ?_
  refine go_seq ?_
  refine r_in ?_
  refine o_batch 0 [(b66, 0, [.int .i64 6, .int .i64 7])] [.p, .l 0 0, .p, .p] [(19, .pointer (some ⟨b66, 0, none⟩)), (20, .int .i64 6), (21, .int .i64 4), (22, .bool false)] [] ⟨(hI.grp 3 rfl), trivial⟩ trivial (by kernel_rfl) (by kernel_rfl) (by kernel_rfl) ?_
  refine r_out (by kernel_rfl) ?_
  refine go_else (by kernel_rfl) ?_
  refine go_skip ?_
  refine go_inBlock ?_
  refine r_in ?_
  refine o_batch 0 [] [.p, .p] [(32, .int .i64 7), (15, .int .i64 7)] [] trivial trivial (by kernel_rfl) (by kernel_rfl) (by kernel_rfl) ?_
  refine r_out (by kernel_rfl) ?_
  refine go_again ?_
  refine go_gen [(0, .pointer (some ⟨b1, 0, none⟩)), (1, .pointer (some ⟨b2, 0, none⟩)), (2, .int .i64 4), (13, .slice (some ⟨b59, 0, none⟩) level_Pairs_lit.length c58), (14, .int .i64 (level_Pairs_lit.length : Int)), (15, .int .i64 7)] (by kernel_rfl) ?_
  intro _
  replace hI := hI.pick (L' := [.blk b1 42 [.int .u16 0, .int .u16 0, .int .u16 0, .int .u16 0, .int .u16 0, .int .u16 0, .int .u16 0, .int .u16 0, .int .u16 0], .blk b2 42 [.int .u16 0, .int .u16 0, .int .u16 0, .int .u16 0, .int .u16 496, .int .u16 480, .int .u16 448, .int .u16 384, .int .u16 256], .row (Ty.flat 2 (fun x : Int × Int => [.int .i64 x.1, .int .i64 x.2]) (fun _ => rfl) (fun _ => oneAll rfl)) 32 (some ⟨b59, 0, none⟩) level_Pairs_lit.length c58 level_Pairs_lit]) [0, 1, 2] (by decide) rfl
  refine go_seq ?_
  refine r_in ?_
  refine o_batch 0 [] [.p] [(16, .bool true)] [] trivial trivial (by kernel_rfl) (by kernel_rfl) (by kernel_rfl) ?_
  refine r_out (by kernel_rfl) ?_
  refine go_seq ?_
  refine go_then (by kernel_rfl) ?_
  refine go_skip ?_
  refine go_seq ?_
  refine go_block ?_
  refine go_seq ?_
  refine r_in ?_
  refine o_batch 0 [(b59, 0 + (7 : Int).toNat * 2, [.int .i64 7, .int .i64 8])] [.x, .l 0 0] [(17, .pointer (some ⟨b59, 0 + (7 : Int).toNat * 2, none⟩)), (18, .agg #[.int .i64 7, .int .i64 8])] [(7, level_Pairs_lit.length)] ⟨(rdS.flook (hI.row 2 rfl) (hI.rowlen 2 rfl) (by decide : 0 ≤ (7 : Int) ∧ (7 : Int) < (level_Pairs_lit.length : Int))).ok, trivial⟩ ⟨(by decide : 0 ≤ (7 : Int) ∧ (7 : Int) < (level_Pairs_lit.length : Int)), trivial⟩ (by kernel_rfl) (by kernel_rfl) (by kernel_rfl) ?_
  refine o_eff 2 _ rfl (by kernel_rfl) ?_
  refine e_alloc 32 (.agg #[.int .i64 0, .int .i64 0]) [.int .i64 0, .int .i64 0] rfl (by kernel_rfl) rfl hI ?_
  clear hI
  intro b67 _ hI
  refine o_eff 3 _ rfl (by kernel_rfl) ?_
  refine e_store 32 _ _ 3 b67 32 [.int .i64 0, .int .i64 0] [.int .i64 7, .int .i64 8] 0 (.agg #[.int .i64 7, .int .i64 8]) rfl (by kernel_rfl) (by kernel_rfl) (by kernel_rfl) (by kernel_rfl) hI rfl (by kernel_rfl) (by kernel_rfl) ?_
  clear hI
  intro _ hI
  refine r_out (by kernel_rfl) ?_
  refine go_seq ?_
  refine r_in ?_
  refine o_batch 0 [(b67, 0, [.int .i64 7, .int .i64 8])] [.p, .l 0 0, .p, .p] [(19, .pointer (some ⟨b67, 0, none⟩)), (20, .int .i64 7), (21, .int .i64 4), (22, .bool false)] [] ⟨(hI.grp 3 rfl), trivial⟩ trivial (by kernel_rfl) (by kernel_rfl) (by kernel_rfl) ?_
  refine r_out (by kernel_rfl) ?_
  refine go_else (by kernel_rfl) ?_
  refine go_skip ?_
  refine go_inBlock ?_
  refine r_in ?_
  refine o_batch 0 [] [.p, .p] [(32, .int .i64 8), (15, .int .i64 8)] [] trivial trivial (by kernel_rfl) (by kernel_rfl) (by kernel_rfl) ?_
  refine r_out (by kernel_rfl) ?_
  refine go_again ?_
  refine go_gen [(0, .pointer (some ⟨b1, 0, none⟩)), (1, .pointer (some ⟨b2, 0, none⟩)), (2, .int .i64 4), (13, .slice (some ⟨b59, 0, none⟩) level_Pairs_lit.length c58), (14, .int .i64 (level_Pairs_lit.length : Int)), (15, .int .i64 8)] (by kernel_rfl) ?_
  intro _
  replace hI := hI.pick (L' := [.blk b1 42 [.int .u16 0, .int .u16 0, .int .u16 0, .int .u16 0, .int .u16 0, .int .u16 0, .int .u16 0, .int .u16 0, .int .u16 0], .blk b2 42 [.int .u16 0, .int .u16 0, .int .u16 0, .int .u16 0, .int .u16 496, .int .u16 480, .int .u16 448, .int .u16 384, .int .u16 256], .row (Ty.flat 2 (fun x : Int × Int => [.int .i64 x.1, .int .i64 x.2]) (fun _ => rfl) (fun _ => oneAll rfl)) 32 (some ⟨b59, 0, none⟩) level_Pairs_lit.length c58 level_Pairs_lit]) [0, 1, 2] (by decide) rfl
  refine go_seq ?_
  refine r_in ?_
  refine o_batch 0 [] [.p] [(16, .bool false)] [] trivial trivial (by kernel_rfl) (by kernel_rfl) (by kernel_rfl) ?_
  refine r_out (by kernel_rfl) ?_
  refine go_seq ?_
  refine go_else (by kernel_rfl) ?_
  refine go_exit rfl ?_
  refine go_inBlock ?_
  refine r_in ?_
  refine o_batch 0 [] [.p, .p, .p] [(7, .int .i64 4), (8, .int .i64 3), (2, .int .i64 3)] [] trivial trivial (by kernel_rfl) (by kernel_rfl) (by kernel_rfl) ?_
  refine r_out (by kernel_rfl) ?_
  refine go_again ?_
  refine go_gen [(0, .pointer (some ⟨b1, 0, none⟩)), (1, .pointer (some ⟨b2, 0, none⟩)), (2, .int .i64 3)] (by kernel_rfl) ?_
  intro _
  replace hI := hI.pick (L' := [.blk b1 42 [.int .u16 0, .int .u16 0, .int .u16 0, .int .u16 0, .int .u16 0, .int .u16 0, .int .u16 0, .int .u16 0, .int .u16 0], .blk b2 42 [.int .u16 0, .int .u16 0, .int .u16 0, .int .u16 0, .int .u16 496, .int .u16 480, .int .u16 448, .int .u16 384, .int .u16 256]]) [0, 1] (by decide) rfl
  refine go_seq ?_
  refine go_seq ?_
  refine r_in ?_
  refine o_batch 0 [] [.p, .p] [(5, .int .i64 3), (6, .bool true)] [] trivial trivial (by kernel_rfl) (by kernel_rfl) (by kernel_rfl) ?_
  refine r_out (by kernel_rfl) ?_
  refine go_then (by kernel_rfl) ?_
  refine go_skip ?_
  refine go_seq ?_
  refine go_block ?_
  refine go_seq ?_
  refine r_in ?_
  refine o_batch 0 [] [.p, .p, .x, .p] [(9, .int .i64 3), (10, .int .i64 3), (11, .int .u16 8), (12, .pointer (some ⟨b2, 3, none⟩))] [(3, far)] trivial ⟨(by decide), trivial⟩ (by kernel_rfl) (by kernel_rfl) (by kernel_rfl) ?_
  refine o_eff 4 _ rfl (by kernel_rfl) ?_
  refine e_store 41 _ _ 1 b2 42 [.int .u16 0, .int .u16 0, .int .u16 0, .int .u16 0, .int .u16 496, .int .u16 480, .int .u16 448, .int .u16 384, .int .u16 256] [.int .u16 0, .int .u16 0, .int .u16 0, .int .u16 8, .int .u16 496, .int .u16 480, .int .u16 448, .int .u16 384, .int .u16 256] 3 (.int .u16 8) rfl (by kernel_rfl) (by kernel_rfl) (by kernel_rfl) (by kernel_rfl) hI rfl (by kernel_rfl) (by kernel_rfl) ?_
  clear hI
  intro _ hI
  refine r_out (by kernel_rfl) ?_
  refine go_seq ?_
  refine r_in ?_
  replace H := bind_some H
  obtain ⟨y68, hy69, H⟩ := H
  have hyc : y68 = level_Pairs_lit := (Option.some.inj hy69).symm
  subst hyc
  refine o_eff 0 _ rfl (by kernel_rfl) ?_
  refine e_callf _ _ _ 14 #[] #[] #[] #[] rfl (by kernel_rfl) (by kernel_rfl) (by kernel_rfl) (enter14 _) (level_Pairs_calls (memOf _) _ (Inv.start _) _ hy69) ?_
  rintro _ _ ⟨A70, c71, rfl, hI'⟩
  replace hI := hI.call0 hI'
  clear hI'
  refine ⟨_, rfl, ?_⟩
  refine o_batch 1 [] [.p, .p] [(14, .int .i64 (level_Pairs_lit.length : Int)), (15, .int .i64 0)] [] trivial trivial (by kernel_rfl) (by kernel_rfl) (by kernel_rfl) ?_
  refine r_out (by kernel_rfl) ?_
  refine go_block ?_
  refine go_loop ?_
  refine go_seq ?_
  refine r_in ?_
  refine o_batch 0 [] [.p] [(16, .bool true)] [] trivial trivial (by kernel_rfl) (by kernel_rfl) (by kernel_rfl) ?_
  refine r_out (by kernel_rfl) ?_
  refine go_seq ?_
  refine go_then (by kernel_rfl) ?_
  refine go_skip ?_
  refine go_seq ?_
  refine go_block ?_
  refine go_seq ?_
  refine r_in ?_
  obtain ⟨b72, rfl⟩ := hI.rowAt 2 rfl (by decide : 0 ≤ (0 : Int) ∧ (0 : Int) < (level_Pairs_lit.length : Int))
  refine o_batch 0 [(b72, 0 + (0 : Int).toNat * 2, [.int .i64 1, .int .i64 2])] [.x, .l 0 0] [(17, .pointer (some ⟨b72, 0 + (0 : Int).toNat * 2, none⟩)), (18, .agg #[.int .i64 1, .int .i64 2])] [(0, level_Pairs_lit.length)] ⟨(rdS.flook (hI.row 2 rfl) (hI.rowlen 2 rfl) (by decide : 0 ≤ (0 : Int) ∧ (0 : Int) < (level_Pairs_lit.length : Int))).ok, trivial⟩ ⟨(by decide : 0 ≤ (0 : Int) ∧ (0 : Int) < (level_Pairs_lit.length : Int)), trivial⟩ (by kernel_rfl) (by kernel_rfl) (by kernel_rfl) ?_
  refine o_eff 2 _ rfl (by kernel_rfl) ?_
  refine e_alloc 32 (.agg #[.int .i64 0, .int .i64 0]) [.int .i64 0, .int .i64 0] rfl (by kernel_rfl) rfl hI ?_
  clear hI
  intro b73 _ hI
  refine o_eff 3 _ rfl (by kernel_rfl) ?_
  refine e_store 32 _ _ 3 b73 32 [.int .i64 0, .int .i64 0] [.int .i64 1, .int .i64 2] 0 (.agg #[.int .i64 1, .int .i64 2]) rfl (by kernel_rfl) (by kernel_rfl) (by kernel_rfl) (by kernel_rfl) hI rfl (by kernel_rfl) (by kernel_rfl) ?_
  clear hI
  intro _ hI
  refine r_out (by kernel_rfl) ?_
  refine go_seq ?_
  refine r_in ?_
  refine o_batch 0 [(b73, 0, [.int .i64 1, .int .i64 2])] [.p, .l 0 0, .p, .p] [(19, .pointer (some ⟨b73, 0, none⟩)), (20, .int .i64 1), (21, .int .i64 3), (22, .bool false)] [] ⟨(hI.grp 3 rfl), trivial⟩ trivial (by kernel_rfl) (by kernel_rfl) (by kernel_rfl) ?_
  refine r_out (by kernel_rfl) ?_
  refine go_else (by kernel_rfl) ?_
  refine go_skip ?_
  refine go_inBlock ?_
  refine r_in ?_
  refine o_batch 0 [] [.p, .p] [(32, .int .i64 1), (15, .int .i64 1)] [] trivial trivial (by kernel_rfl) (by kernel_rfl) (by kernel_rfl) ?_
  refine r_out (by kernel_rfl) ?_
  refine go_again ?_
  refine go_gen [(0, .pointer (some ⟨b1, 0, none⟩)), (1, .pointer (some ⟨b2, 0, none⟩)), (2, .int .i64 3), (13, .slice (some ⟨b72, 0, none⟩) level_Pairs_lit.length c71), (14, .int .i64 (level_Pairs_lit.length : Int)), (15, .int .i64 1)] (by kernel_rfl) ?_
  intro _
  replace hI := hI.pick (L' := [.blk b1 42 [.int .u16 0, .int .u16 0, .int .u16 0, .int .u16 0, .int .u16 0, .int .u16 0, .int .u16 0, .int .u16 0, .int .u16 0], .blk b2 42 [.int .u16 0, .int .u16 0, .int .u16 0, .int .u16 8, .int .u16 496, .int .u16 480, .int .u16 448, .int .u16 384, .int .u16 256], .row (Ty.flat 2 (fun x : Int × Int => [.int .i64 x.1, .int .i64 x.2]) (fun _ => rfl) (fun _ => oneAll rfl)) 32 (some ⟨b72, 0, none⟩) level_Pairs_lit.length c71 level_Pairs_lit]) [0, 1, 2] (by decide) rfl
  refine go_seq ?_
  refine r_in ?_
  refine o_batch 0 [] [.p] [(16, .bool true)] [] trivial trivial (by kernel_rfl) (by kernel_rfl) (by kernel_rfl) ?_
  refine r_out (by kernel_rfl) ?_
  refine go_seq ?_
  refine go_then (by kernel_rfl) ?_
  refine go_skip ?_
  refine go_seq ?_
  refine go_block ?_
  refine go_seq ?_
  refine r_in ?_
  refine o_batch 0 [(b72, 0 + (1 : Int).toNat * 2, [.int .i64 2, .int .i64 6])] [.x, .l 0 0] [(17, .pointer (some ⟨b72, 0 + (1 : Int).toNat * 2, none⟩)), (18, .agg #[.int .i64 2, .int .i64 6])] [(1, level_Pairs_lit.length)] ⟨(rdS.flook (hI.row 2 rfl) (hI.rowlen 2 rfl) (by decide : 0 ≤ (1 : Int) ∧ (1 : Int) < (level_Pairs_lit.length : Int))).ok, trivial⟩ ⟨(by decide : 0 ≤ (1 : Int) ∧ (1 : Int) < (level_Pairs_lit.length : Int)), trivial⟩ (by kernel_rfl) (by kernel_rfl) (by kernel_rfl) ?_
  refine o_eff 2 _ rfl (by kernel_rfl) ?_
  refine e_alloc 32 (.agg #[.int .i64 0, .int .i64 0]) [.int .i64 0, .int .i64 0] rfl (by kernel_rfl) rfl hI ?_
  clear hI
  intro b74 _ hI
  refine o_eff 3 _ rfl (by kernel_rfl) ?_
  refine e_store 32 _ _ 3 b74 32 [.int .i64 0, .int .i64 0] [.int .i64 2, .int .i64 6] 0 (.agg #[.int .i64 2, .int .i64 6]) rfl (by kernel_rfl) (by kernel_rfl) (by kernel_rfl) (by kernel_rfl) hI rfl (by kernel_rfl) (by kernel_rfl) ?_
  clear hI
  intro _ hI
  refine r_out (by kernel_rfl) ?_
  refine go_seq ?_
  refine r_in ?_
  refine o_batch 0 [(b74, 0, [.int .i64 2, .int .i64 6])] [.p, .l 0 0, .p, .p] [(19, .pointer (some ⟨b74, 0, none⟩)), (20, .int .i64 2), (21, .int .i64 3), (22, .bool false)] [] ⟨(hI.grp 3 rfl), trivial⟩ trivial (by kernel_rfl) (by kernel_rfl) (by kernel_rfl) ?_
  refine r_out (by kernel_rfl) ?_
  refine go_else (by kernel_rfl) ?_
  refine go_skip ?_
  refine go_inBlock ?_
  refine r_in ?_
  refine o_batch 0 [] [.p, .p] [(32, .int .i64 2), (15, .int .i64 2)] [] trivial trivial (by kernel_rfl) (by kernel_rfl) (by kernel_rfl) ?_
  refine r_out (by kernel_rfl) ?_
  refine go_again ?_
  refine go_gen [(0, .pointer (some ⟨b1, 0, none⟩)), (1, .pointer (some ⟨b2, 0, none⟩)), (2, .int .i64 3), (13, .slice (some ⟨b72, 0, none⟩) level_Pairs_lit.length c71), (14, .int .i64 (level_Pairs_lit.length : Int)), (15, .int .i64 2)] (by kernel_rfl) ?_
  intro _
  replace hI := hI.pick (L' := [.blk b1 42 [.int .u16 0, .int .u16 0, .int .u16 0, .int .u16 0, .int .u16 0, .int .u16 0, .int .u16 0, .int .u16 0, .int .u16 0], .blk b2 42 [.int .u16 0, .int .u16 0, .int .u16 0, .int .u16 8, .int .u16 496, .int .u16 480, .int .u16 448, .int .u16 384, .int .u16 256], .row (Ty.flat 2 (fun x : Int × Int => [.int .i64 x.1, .int .i64 x.2]) (fun _ => rfl) (fun _ => oneAll rfl)) 32 (some ⟨b72, 0, none⟩) level_Pairs_lit.length c71 level_Pairs_lit]) [0, 1, 2] (by decide) rfl
  refine go_seq ?_
  refine r_in ?_
  refine o_batch 0 [] [.p] [(16, .bool true)] [] trivial trivial (by kernel_rfl) (by kernel_rfl) (by kernel_rfl) ?_
  refine r_out (by kernel_rfl) ?_
  refine go_seq ?_
  refine go_then (by kernel_rfl) ?_
  refine go_skip ?_
  refine go_seq ?_
  refine go_block ?_
  refine go_seq ?_
  refine r_in ?_
  refine o_batch 0 [(b72, 0 + (2 : Int).toNat * 2, [.int .i64 1, .int .i64 3])] [.x, .l 0 0] [(17, .pointer (some ⟨b72, 0 + (2 : Int).toNat * 2, none⟩)), (18, .agg #[.int .i64 1, .int .i64 3])] [(2, level_Pairs_lit.length)] ⟨(rdS.flook (hI.row 2 rfl) (hI.rowlen 2 rfl) (by decide : 0 ≤ (2 : Int) ∧ (2 : Int) < (level_Pairs_lit.length : Int))).ok, trivial⟩ ⟨(by decide : 0 ≤ (2 : Int) ∧ (2 : Int) < (level_Pairs_lit.length : Int)), trivial⟩ (by kernel_rfl) (by kernel_rfl) (by kernel_rfl) ?_
  refine o_eff 2 _ rfl (by kernel_rfl) ?_
  refine e_alloc 32 (.agg #[.int .i64 0, .int .i64 0]) [.int .i64 0, .int .i64 0] rfl (by kernel_rfl) rfl hI ?_
  clear hI
  intro b75 _ hI
  refine o_eff 3 _ rfl (by kernel_rfl) ?_
  refine e_store 32 _ _ 3 b75 32 [.int .i64 0, .int .i64 0] [.int .i64 1, .int .i64 3] 0 (.agg #[.int .i64 1, .int .i64 3]) rfl (by kernel_rfl) (by kernel_rfl) (by kernel_rfl) (by kernel_rfl) hI rfl (by kernel_rfl) (by kernel_rfl) ?_
  clear hI
  intro _ hI
  refine r_out (by kernel_rfl) ?_
  refine go_seq ?_
  refine r_in ?_
  refine o_batch 0 [(b75, 0, [.int .i64 1, .int .i64 3])] [.p, .l 0 0, .p, .p] [(19, .pointer (some ⟨b75, 0, none⟩)), (20, .int .i64 1), (21, .int .i64 3), (22, .bool false)] [] ⟨(hI.grp 3 rfl), trivial⟩ trivial (by kernel_rfl) (by kernel_rfl) (by kernel_rfl) ?_
  refine r_out (by kernel_rfl) ?_
  refine go_else (by kernel_rfl) ?_
  refine go_skip ?_
  refine go_inBlock ?_
  refine r_in ?_
  refine o_batch 0 [] [.p, .p] [(32, .int .i64 3), (15, .int .i64 3)] [] trivial trivial (by kernel_rfl) (by kernel_rfl) (by kernel_rfl) ?_
  refine r_out (by kernel_rfl) ?_
  refine go_again ?_
  refine go_gen [(0, .pointer (some ⟨b1, 0, none⟩)), (1, .pointer (some ⟨b2, 0, none⟩)), (2, .int .i64 3), (13, .slice (some ⟨b72, 0, none⟩) level_Pairs_lit.length c71), (14, .int .i64 (level_Pairs_lit.length : Int)), (15, .int .i64 3)] (by kernel_rfl) ?_
  intro _
  replace hI := hI.pick (L' := [.blk b1 42 [.int .u16 0, .int .u16 0, .int .u16 0, .int .u16 0, .int .u16 0, .int .u16 0, .int .u16 0, .int .u16 0, .int .u16 0], .blk b2 42 [.int .u16 0, .int .u16 0, .int .u16 0, .int .u16 8, .int .u16 496, .int .u16 480, .int .u16 448, .int .u16 384, .int .u16 256], .row (Ty.flat 2 (fun x : Int × Int => [.int .i64 x.1, .int .i64 x.2]) (fun _ => rfl) (fun _ => oneAll rfl)) 32 (some ⟨b72, 0, none⟩) level_Pairs_lit.length c71 level_Pairs_lit]) [0, 1, 2] (by decide) rfl
  refine go_seq ?_
  refine r_in ?_
  refine o_batch 0 [] [.p] [(16, .bool true)] [] trivial trivial (by kernel_rfl) (by kernel_rfl) (by kernel_rfl) ?_
  refine r_out (by kernel_rfl) ?_
  refine go_seq ?_
  refine go_then (by kernel_rfl) ?_
  refine go_skip ?_
  refine go_seq ?_
  refine go_block ?_
  refine go_seq ?_
  refine r_in ?_
  refine o_batch 0 [(b72, 0 + (3 : Int).toNat * 2, [.int .i64 3, .int .i64 4])] [.x, .l 0 0] [(17, .pointer (some ⟨b72, 0 + (3 : Int).toNat * 2, none⟩)), (18, .agg #[.int .i64 3, .int .i64 4])] [(3, level_Pairs_lit.length)] ⟨(rdS.flook (hI.row 2 rfl) (hI.rowlen 2 rfl) (by decide : 0 ≤ (3 : Int) ∧ (3 : Int) < (level_Pairs_lit.length : Int))).ok, trivial⟩ ⟨(by decide : 0 ≤ (3 : Int) ∧ (3 : Int) < (level_Pairs_lit.length : Int)), trivial⟩ (by kernel_rfl) (by kernel_rfl) (by kernel_rfl) ?_
  refine o_eff 2 _ rfl (by kernel_rfl) ?_
  refine e_alloc 32 (.agg #[.int .i64 0, .int .i64 0]) [.int .i64 0, .int .i64 0] rfl (by kernel_rfl) rfl hI ?_
  clear hI
  intro b76 _ hI
  refine o_eff 3 _ rfl (by kernel_rfl) ?_
  refine e_store 32 _ _ 3 b76 32 [.int .i64 0, .int .i64 0] [.int .i64 3, .int .i64 4] 0 (.agg #[.int .i64 3, .int .i64 4]) rfl (by kernel_rfl) (by kernel_rfl) (by kernel_rfl) (by kernel_rfl) hI rfl (by kernel_rfl) (by kernel_rfl) ?_
  clear hI
  intro _ hI
  refine r_out (by kernel_rfl) ?_
  refine go_seq ?_
  refine r_in ?_
  refine o_batch 0 [(b76, 0, [.int .i64 3, .int .i64 4])] [.p, .l 0 0, .p, .p] [(19, .pointer (some ⟨b76, 0, none⟩)), (20, .int .i64 3), (21, .int .i64 3), (22, .bool true)] [] ⟨(hI.grp 3 rfl), trivial⟩ trivial (by kernel_rfl) (by kernel_rfl) (by kernel_rfl) ?_
  refine r_out (by kernel_rfl) ?_
  refine go_then (by kernel_rfl) ?_
  refine d_tail' 9 _ [(b2, 0, [.int .u16 0, .int .u16 0, .int .u16 0, .int .u16 8, .int .u16 496, .int .u16 480, .int .u16 448, .int .u16 384, .int .u16 256]), (b76, 0, [.int .i64 3, .int .i64 4])] [.p, .p, .l 0 3, .p, .l 1 1, .p, .l 0 4, .p, .p] [(23, .int .i64 3), (24, .pointer (some ⟨b2, 3, none⟩)), (25, .int .u16 8), (26, .pointer (some ⟨b76, 1, none⟩)), (27, .int .i64 4), (28, .pointer (some ⟨b2, 4, none⟩)), (29, .int .u16 496), (30, .int .u16 504), (31, .pointer (some ⟨b2, 3, none⟩))] [] (by kernel_rfl) (by kernel_rfl) rfl rfl ⟨(hI.grp 1 rfl), (hI.grp 3 rfl), trivial⟩ trivial (by kernel_rfl) (by kernel_rfl) (by kernel_rfl) (by kernel_rfl) hI ?_
  clear hI
  intro _ hI hsame
  refine e_store 41 _ _ 1 b2 42 [.int .u16 0, .int .u16 0, .int .u16 0, .int .u16 8, .int .u16 496, .int .u16 480, .int .u16 448, .int .u16 384, .int .u16 256] [.int .u16 0, .int .u16 0, .int .u16 0, .int .u16 504, .int .u16 496, .int .u16 480, .int .u16 448, .int .u16 384, .int .u16 256] 3 (.int .u16 504) rfl (by kernel_rfl) (by kernel_rfl) (by kernel_rfl) (by kernel_rfl) hI rfl (by kernel_rfl) (by kernel_rfl) ?_
  clear hI
  intro _ hI
  refine go_inBlock ?_
  refine r_in ?_
  refine o_batch 0 [] [.p, .p] [(32, .int .i64 4), (15, .int .i64 4)] [] trivial trivial (by kernel_rfl) (by kernel_rfl) (by kernel_rfl) ?_
  refine r_out (by kernel_rfl) ?_
  refine go_again ?_
  refine go_gen [(0, .pointer (some ⟨b1, 0, none⟩)), (1, .pointer (some ⟨b2, 0, none⟩)), (2, .int .i64 3), (13, .slice (some ⟨b72, 0, none⟩) level_Pairs_lit.length c71), (14, .int .i64 (level_Pairs_lit.length : Int)), (15, .int .i64 4)] (by kernel_rfl) ?_
  intro _
  replace hI := hI.pick (L' := [.blk b1 42 [.int .u16 0, .int .u16 0, .int .u16 0, .int .u16 0, .int .u16 0, .int .u16 0, .int .u16 0, .int .u16 0, .int .u16 0], .blk b2 42 [.int .u16 0, .int .u16 0, .int .u16 0, .int .u16 504, .int .u16 496, .int .u16 480, .int .u16 448, .int .u16 384, .int .u16 256], .row (Ty.flat 2 (fun x : Int × Int => [.int .i64 x.1, .int .i64 x.2]) (fun _ => rfl) (fun _ => oneAll rfl)) 32 (some ⟨b72, 0, none⟩) level_Pairs_lit.length c71 level_Pairs_lit]) [0, 1, 2] (by decide) rfl
  refine go_seq ?_
  refine r_in ?_
  refine o_batch 0 [] [.p] [(16, .bool true)] [] trivial trivial (by kernel_rfl) (by kernel_rfl) (by kernel_rfl) ?_
  refine r_out (by kernel_rfl) ?_
  refine go_seq ?_
  refine go_then (by kernel_rfl) ?_
  refine go_skip ?_
  refine go_seq ?_
  refine go_block ?_
  refine go_seq ?_
  refine r_in ?_
  refine o_batch 0 [(b72, 0 + (4 : Int).toNat * 2, [.int .i64 4, .int .i64 5])] [.x, .l 0 0] [(17, .pointer (some ⟨b72, 0 + (4 : Int).toNat * 2, none⟩)), (18, .agg #[.int .i64 4, .int .i64 5])] [(4, level_Pairs_lit.length)] ⟨(rdS.flook (hI.row 2 rfl) (hI.rowlen 2 rfl) (by decide : 0 ≤ (4 : Int) ∧ (4 : Int) < (level_Pairs_lit.length : Int))).ok, trivial⟩ ⟨(by decide : 0 ≤ (4 : Int) ∧ (4 : Int) < (level_Pairs_lit.length : Int)), trivial⟩ (by kernel_rfl) (by kernel_rfl) (by kernel_rfl) ?_
  refine o_eff 2 _ rfl (by kernel_rfl) ?_
  refine e_alloc 32 (.agg #[.int .i64 0, .int .i64 0]) [.int .i64 0, .int .i64 0] rfl (by kernel_rfl) rfl hI ?_
  clear hI
  intro b77 _ hI
  refine o_eff 3 _ rfl (by kernel_rfl) ?_
  refine e_store 32 _ _ 3 b77 32 [.int .i64 0, .int .i64 0] [.int .i64 4, .int .i64 5] 0 (.agg #[.int .i64 4, .int .i64 5]) rfl (by kernel_rfl) (by kernel_rfl) (by kernel_rfl) (by kernel_rfl) hI rfl (by kernel_rfl) (by kernel_rfl) ?_
  clear hI
  intro _ hI
  refine r_out (by kernel_rfl) ?_
  refine go_seq ?_
  refine r_in ?_
  refine o_batch 0 [(b77, 0, [.int .i64 4, .int .i64 5])] [.p, .l 0 0, .p, .p] [(19, .pointer (some ⟨b77, 0, none⟩)), (20, .int .i64 4), (21, .int .i64 3), (22, .bool false)] [] ⟨(hI.grp 3 rfl), trivial⟩ trivial (by kernel_rfl) (by kernel_rfl) (by kernel_rfl) ?_
  refine r_out (by kernel_rfl) ?_
  refine go_else (by kernel_rfl) ?_
  refine go_skip ?_
  refine go_inBlock ?_
  refine r_in ?_
  refine o_batch 0 [] [.p, .p] [(32, .int .i64 5), (15, .int .i64 5)] [] trivial trivial (by kernel_rfl) (by kernel_rfl) (by kernel_rfl) ?_
  refine r_out (by kernel_rfl) ?_
  refine go_again ?_
  refine go_gen [(0, .pointer (some ⟨b1, 0, none⟩)), (1, .pointer (some ⟨b2, 0, none⟩)), (2, .int .i64 3), (13, .slice (some ⟨b72, 0, none⟩) level_Pairs_lit.length c71), (14, .int .i64 (level_Pairs_lit.length : Int)), (15, .int .i64 5)] (by kernel_rfl) ?_
  intro _
  replace hI := hI.pick (L' := [.blk b1 42 [.int .u16 0, .int .u16 0, .int .u16 0, .int .u16 0, .int .u16 0, .int .u16 0, .int .u16 0, .int .u16 0, .int .u16 0], .blk b2 42 [.int .u16 0, .int .u16 0, .int .u16 0, .int .u16 504, .int .u16 496, .int .u16 480, .int .u16 448, .int .u16 384, .int .u16 256], .row (Ty.flat 2 (fun x : Int × Int => [.int .i64 x.1, .int .i64 x.2]) (fun _ => rfl) (fun _ => oneAll rfl)) 32 (some ⟨b72, 0, none⟩) level_Pairs_lit.length c71 level_Pairs_lit]) [0, 1, 2] (by decide) rfl
  refine go_seq ?_
  refine r_in ?_
  refine o_batch 0 [] [.p] [(16, .bool true)] [] trivial trivial (by kernel_rfl) (by kernel_rfl) (by kernel_rfl) ?_
  refine r_out (by kernel_rfl) ?_
  refine go_seq ?_
  refine go_then (by kernel_rfl) ?_
  refine go_skip ?_
  refine go_seq ?_
  refine go_block ?_
  refine go_seq ?_
  refine r_in ?_
  refine o_batch 0 [(b72, 0 + (5 : Int).toNat * 2, [.int .i64 5, .int .i64 6])] [.x, .l 0 0] [(17, .pointer (some ⟨b72, 0 + (5 : Int).toNat * 2, none⟩)), (18, .agg #[.int .i64 5, .int .i64 6])] [(5, level_Pairs_lit.length)] ⟨(rdS.flook (hI.row 2 rfl) (hI.rowlen 2 rfl) (by decide : 0 ≤ (5 : Int) ∧ (5 : Int) < (level_Pairs_lit.length : Int))).ok, trivial⟩ ⟨(by decide : 0 ≤ (5 : Int) ∧ (5 : Int) < (level_Pairs_lit.length : Int)), trivial⟩ (by kernel_rfl) (by kernel_rfl) (by kernel_rfl) ?_
  refine o_eff 2 _ rfl (by kernel_rfl) ?_
  refine e_alloc 32 (.agg #[.int .i64 0, .int .i64 0]) [.int .i64 0, .int .i64 0] rfl (by kernel_rfl) rfl hI ?_
  clear hI
  intro b78 _ hI
  refine o_eff 3 _ rfl (by kernel_rfl) ?_
  refine e_store 32 _ _ 3 b78 32 [.int .i64 0, .int .i64 0] [.int .i64 5, .int .i64 6] 0 (.agg #[.int .i64 5, .int .i64 6]) rfl (by kernel_rfl) (by kernel_rfl) (by kernel_rfl) (by kernel_rfl) hI rfl (by kernel_rfl) (by kernel_rfl) ?_
  clear hI
  intro _ hI
  refine r_out (by kernel_rfl) ?_
  refine go_seq ?_
  refine r_in ?_
  refine o_batch 0 [(b78, 0, [.int .i64 5, .int .i64 6])] [.p, .l 0 0, .p, .p] [(19, .pointer (some ⟨b78, 0, none⟩)), (20, .int .i64 5), (21, .int .i64 3), (22, .bool false)] [] ⟨(hI.grp 3 rfl), trivial⟩ trivial (by kernel_rfl) (by kernel_rfl) (by kernel_rfl) ?_
  refine r_out (by kernel_rfl) ?_
  refine go_else (by kernel_rfl) ?_
  refine go_skip ?_
  refine go_inBlock ?_
  refine r_in ?_
  refine o_batch 0 [] [.p, .p] [(32, .int .i64 6), (15, .int .i64 6)] [] trivial trivial (by kernel_rfl) (by kernel_rfl) (by kernel_rfl) ?_
  refine r_out (by kernel_rfl) ?_
  refine go_again ?_
  refine go_gen [(0, .pointer (some ⟨b1, 0, none⟩)), (1, .pointer (some ⟨b2, 0, none⟩)), (2, .int .i64 3), (13, .slice (some ⟨b72, 0, none⟩) level_Pairs_lit.length c71), (14, .int .i64 (level_Pairs_lit.length : Int)), (15, .int .i64 6)] (by kernel_rfl) ?_
  intro _
  replace hI := hI.pick (L' := [.blk b1 42 [.int .u16 0, .int .u16 0, .int .u16 0, .int .u16 0, .int .u16 0, .int .u16 0, .int .u16 0, .int .u16 0, .int .u16 0], .blk b2 42 [.int .u16 0, .int .u16 0, .int .u16 0, .int .u16 504, .int .u16 496, .int .u16 480, .int .u16 448, .int .u16 384, .int .u16 256], .row (Ty.flat 2 (fun x : Int × Int => [.int .i64 x.1, .int .i64 x.2]) (fun _ => rfl) (fun _ => oneAll rfl)) 32 (some ⟨b72, 0, none⟩) level_Pairs_lit.length c71 level_Pairs_lit]) [0, 1, 2] (by decide) rfl
  refine go_seq ?_
  refine r_in ?_
  refine o_batch 0 [] [.p] [(16, .bool true)] [] trivial trivial (by kernel_rfl) (by kernel_rfl) (by kernel_rfl) ?_
  refine r_out (by kernel_rfl) ?_
  refine go_seq ?_
  refine go_then (by kernel_rfl) ?_
  refine go_skip ?_
  refine go_seq ?_
  refine go_block ?_
  refine go_seq ?_
  refine r_in ?_
  refine o_batch 0 [(b72, 0 + (6 : Int).toNat * 2, [.int .i64 6, .int .i64 7])] [.x, .l 0 0] [(17, .pointer (some ⟨b72, 0 + (6 : Int).toNat * 2, none⟩)), (18, .agg #[.int .i64 6, .int .i64 7])] [(6, level_Pairs_lit.length)] ⟨(rdS.flook (hI.row 2 rfl) (hI.rowlen 2 rfl) (by decide : 0 ≤ (6 : Int) ∧ (6 : Int) < (level_Pairs_lit.length : Int))).ok, trivial⟩ ⟨(by decide : 0 ≤ (6 : Int) ∧ (6 : Int) < (level_Pairs_lit.length : Int)), trivial⟩ (by kernel_rfl) (by kernel_rfl) (by kernel_rfl) ?_
  refine o_eff 2 _ rfl (by kernel_rfl) ?_
  refine e_alloc 32 (.agg #[.int .i64 0, .int .i64 0]) [.int .i64 0, .int .i64 0] rfl (by kernel_rfl) rfl hI ?_
  clear hI
  intro b79 _ hI
  refine o_eff 3 _ rfl (by kernel_rfl) ?_
  refine e_store 32 _ _ 3 b79 32 [.int .i64 0, .int .i64 0] [.int .i64 6, .int .i64 7] 0 (.agg #[.int .i64 6, .int .i64 7]) rfl (by kernel_rfl) (by kernel_rfl) (by kernel_rfl) (by kernel_rfl) hI rfl (by kernel_rfl) (by kernel_rfl) ?_
  clear hI
  intro _ hI
  refine r_out (by kernel_rfl) ?_
  refine go_seq ?_
  refine r_in ?_
  refine o_batch 0 [(b79, 0, [.int .i64 6, .int .i64 7])] [.p, .l 0 0, .p, .p] [(19, .pointer (some ⟨b79, 0, none⟩)), (20, .int .i64 6), (21, .int .i64 3), (22, .bool false)] [] ⟨(hI.grp 3 rfl), trivial⟩ trivial (by kernel_rfl) (by kernel_rfl) (by kernel_rfl) ?_
  refine r_out (by kernel_rfl) ?_
  refine go_else (by kernel_rfl) ?_
  refine go_skip ?_
  refine go_inBlock ?_
  refine r_in ?_
  refine o_batch 0 [] [.p, .p] [(32, .int .i64 7), (15, .int .i64 7)] [] trivial trivial (by kernel_rfl) (by kernel_rfl) (by kernel_rfl) ?_
  refine r_out (by kernel_rfl) ?_
  refine go_again ?_
  refine go_gen [(0, .pointer (some ⟨b1, 0, none⟩)), (1, .pointer (some ⟨b2, 0, none⟩)), (2, .int .i64 3), (13, .slice (some ⟨b72, 0, none⟩) level_Pairs_lit.length c71), (14, .int .i64 (level_Pairs_lit.length : Int)), (15, .int .i64 7)] (by kernel_rfl) ?_
  intro _
  replace hI := hI.pick (L' := [.blk b1 42 [.int .u16 0, .int .u16 0, .int .u16 0, .int .u16 0, .int .u16 0, .int .u16 0, .int .u16 0, .int .u16 0, .int .u16 0], .blk b2 42 [.int .u16 0, .int .u16 0, .int .u16 0, .int .u16 504, .int .u16 496, .int .u16 480, .int .u16 448, .int .u16 384, .int .u16 256], .row (Ty.flat 2 (fun x : Int × Int => [.int .i64 x.1, .int .i64 x.2]) (fun _ => rfl) (fun _ => oneAll rfl)) 32 (some ⟨b72, 0, none⟩) level_Pairs_lit.length c71 level_Pairs_lit]) [0, 1, 2] (by decide) rfl
  refine go_seq ?_
  refine r_in ?_
  refine o_batch 0 [] [.p] [(16, .bool true)] [] trivial trivial (by kernel_rfl) (by kernel_rfl) (by kernel_rfl) ?_
  refine r_out (by kernel_rfl) ?_
  refine go_seq ?_
  refine go_then (by kernel_rfl) ?_
  refine go_skip ?_
  refine go_seq ?_
  refine go_block ?_
  refine go_seq ?_
  refine r_in ?_
  refine o_batch 0 [(b72, 0 + (7 : Int).toNat * 2, [.int .i64 7, .int .i64 8])] [.x, .l 0 0] [(17, .pointer (some ⟨b72, 0 + (7 : Int).toNat * 2, none⟩)), (18, .agg #[.int .i64 7, .int .i64 8])] [(7, level_Pairs_lit.length)] ⟨(rdS.flook (hI.row 2 rfl) (hI.rowlen 2 rfl) (by decide : 0 ≤ (7 : Int) ∧ (7 : Int) < (level_Pairs_lit.length : Int))).ok, trivial⟩ ⟨(by decide : 0 ≤ (7 : Int) ∧ (7 : Int) < (level_Pairs_lit.length : Int)), trivial⟩ (by kernel_rfl) (by kernel_rfl) (by kernel_rfl) ?_
  refine o_eff 2 _ rfl (by kernel_rfl) ?_
  refine e_alloc 32 (.agg #[.int .i64 0, .int .i64 0]) [.int .i64 0, .int .i64 0] rfl (by kernel_rfl) rfl hI ?_
  clear hI
  intro b80 _ hI
  refine o_eff 3 _ rfl (by kernel_rfl) ?_
  refine e_store 32 _ _ 3 b80 32 [.int .i64 0, .int .i64 0] [.int .i64 7, .int .i64 8] 0 (.agg #[.int .i64 7, .int .i64 8]) rfl (by kernel_rfl) (by kernel_rfl) (by kernel_rfl) (by kernel_rfl) hI rfl (by kernel_rfl) (by kernel_rfl) ?_
  clear hI
  intro _ hI
  refine r_out (by kernel_rfl) ?_
  refine go_seq ?_
  refine r_in ?_
  refine o_batch 0 [(b80, 0, [.int .i64 7, .int .i64 8])] [.p, .l 0 0, .p, .p] [(19, .pointer (some ⟨b80, 0, none⟩)), (20, .int .i64 7), (21, .int .i64 3), (22, .bool false)] [] ⟨(hI.grp 3 rfl), trivial⟩ trivial (by kernel_rfl) (by kernel_rfl) (by kernel_rfl) ?_
  refine r_out (by kernel_rfl) ?_
  refine go_else (by kernel_rfl) ?_
  refine go_skip ?_
  refine go_inBlock ?_
  refine r_in ?_
  refine o_batch 0 [] [.p, .p] [(32, .int .i64 8), (15, .int .i64 8)] [] trivial trivial (by kernel_rfl) (by kernel_rfl) (by kernel_rfl) ?_
  refine r_out (by kernel_rfl) ?_
  refine go_again ?_
  refine go_gen [(0, .pointer (some ⟨b1, 0, none⟩)), (1, .pointer (some ⟨b2, 0, none⟩)), (2, .int .i64 3), (13, .slice (some ⟨b72, 0, none⟩) level_Pairs_lit.length c71), (14, .int .i64 (level_Pairs_lit.length : Int)), (15, .int .i64 8)] (by kernel_rfl) ?_
  intro _
  replace hI := hI.pick (L' := [.blk b1 42 [.int .u16 0, .int .u16 0, .int .u16 0, .int .u16 0, .int .u16 0, .int .u16 0, .int .u16 0, .int .u16 0, .int .u16 0], .blk b2 42 [.int .u16 0, .int .u16 0, .int .u16 0, .int .u16 504, .int .u16 496, .int .u16 480, .int .u16 448, .int .u16 384, .int .u16 256], .row (Ty.flat 2 (fun x : Int × Int => [.int .i64 x.1, .int .i64 x.2]) (fun _ => rfl) (fun _ => oneAll rfl)) 32 (some ⟨b72, 0, none⟩) level_Pairs_lit.length c71 level_Pairs_lit]) [0, 1, 2] (by decide) rfl
  refine go_seq ?_
  refine r_in ?_
  refine o_batch 0 [] [.p] [(16, .bool false)] [] trivial trivial (by kernel_rfl) (by kernel_rfl) (by kernel_rfl) ?_
  refine r_out (by kernel_rfl) ?_
  refine go_seq ?_
  refine go_else (by kernel_rfl) ?_
  refine go_exit rfl ?_
  refine go_inBlock ?_
  refine r_in ?_
  refine o_batch 0 [] [.p, .p, .p] [(7, .int .i64 3), (8, .int .i64 2), (2, .int .i64 2)] [] trivial trivial (by kernel_rfl) (by kernel_rfl) (by kernel_rfl) ?_
  refine r_out (by kernel_rfl) ?_
  refine go_again ?_
  refine go_gen [(0, .pointer (some ⟨b1, 0, none⟩)), (1, .pointer (some ⟨b2, 0, none⟩)), (2, .int .i64 2)] (by kernel_rfl) ?_
  intro _
  replace hI := hI.pick (L' := [.blk b1 42 [.int .u16 0, .int .u16 0, .int .u16 0, .int .u16 0, .int .u16 0, .int .u16 0, .int .u16 0, .int .u16 0, .int .u16 0], .blk b2 42 [.int .u16 0, .int .u16 0, .int .u16 0, .int .u16 504, .int .u16 496, .int .u16 480, .int .u16 448, .int .u16 384, .int .u16 256]]) [0, 1] (by decide) rfl
  refine go_seq ?_
  refine go_seq ?_
  refine r_in ?_
  refine o_batch 0 [] [.p, .p] [(5, .int .i64 2), (6, .bool true)] [] trivial trivial (by kernel_rfl) (by kernel_rfl) (by kernel_rfl) ?_
  refine r_out (by kernel_rfl) ?_
  refine go_then (by kernel_rfl) ?_
  refine go_skip ?_
  refine go_seq ?_
  refine go_block ?_
  refine go_seq ?_
  refine r_in ?_
  refine o_batch 0 [] [.p, .p, .x, .p] [(9, .int .i64 2), (10, .int .i64 2), (11, .int .u16 4), (12, .pointer (some ⟨b2, 2, none⟩))] [(2, far)] trivial ⟨(by decide), trivial⟩ (by kernel_rfl) (by kernel_rfl) (by kernel_rfl) ?_
  refine o_eff 4 _ rfl (by kernel_rfl) ?_
  refine e_store 41 _ _ 1 b2 42 [.int .u16 0, .int .u16 0, .int .u16 0, .int .u16 504, .int .u16 496, .int .u16 480, .int .u16 448, .int .u16 384, .int .u16 256] [.int .u16 0, .int .u16 0, .int .u16 4, .int .u16 504, .int .u16 496, .int .u16 480, .int .u16 448, .int .u16 384, .int .u16 256] 2 (.int .u16 4) rfl (by kernel_rfl) (by kernel_rfl) (by kernel_rfl) (by kernel_rfl) hI rfl (by kernel_rfl) (by kernel_rfl) ?_
  clear hI
  intro _ hI
  refine r_out (by kernel_rfl) ?_
  refine go_seq ?_
  refine r_in ?_
  replace H := bind_some H
  obtain ⟨y81, hy82, H⟩ := H
  have hyc : y81 = level_Pairs_lit := (Option.some.inj hy82).symm
  subst hyc
  refine o_eff 0 _ rfl (by kernel_rfl) ?_
  refine e_callf _ _ _ 14 #[] #[] #[] #[] rfl (by kernel_rfl) (by kernel_rfl) (by kernel_rfl) (enter14 _) (level_Pairs_calls (memOf _) _ (Inv.start _) _ hy82) ?_
  rintro _ _ ⟨A83, c84, rfl, hI'⟩
  replace hI := hI.call0 hI'
  clear hI'
  refine ⟨_, rfl, ?_⟩
  refine o_batch 1 [] [.p, .p] [(14, .int .i64 (level_Pairs_lit.length : Int)), (15, .int .i64 0)] [] trivial trivial (by kernel_rfl) (by kernel_rfl) (by kernel_rfl) ?_
  refine r_out (by kernel_rfl) ?_
  refine go_block ?_
  refine go_loop ?_
  refine go_seq ?_
  refine r_in ?_
  refine o_batch 0 [] [.p] [(16, .bool true)] [] trivial trivial (by kernel_rfl) (by kernel_rfl) (by kernel_rfl) ?_
  refine r_out (by kernel_rfl) ?_
  refine go_seq ?_
  refine go_then (by kernel_rfl) ?_
  refine go_skip ?_
  refine go_seq ?_
  refine go_block ?_
  refine go_seq ?_
  refine r_in ?_
  obtain ⟨b85, rfl⟩ := hI.rowAt 2 rfl (by decide : 0 ≤ (0 : Int) ∧ (0 : Int) < (level_Pairs_lit.length : Int))
  refine o_batch 0 [(b85, 0 + (0 : Int).toNat * 2, [.int .i64 1, .int .i64 2])] [.x, .l 0 0] [(17, .pointer (some ⟨b85, 0 + (0 : Int).toNat * 2, none⟩)), (18, .agg #[.int .i64 1, .int .i64 2])] [(0, level_Pairs_lit.length)] ⟨(rdS.flook (hI.row 2 rfl) (hI.rowlen 2 rfl) (by decide : 0 ≤ (0 : Int) ∧ (0 : Int) < (level_Pairs_lit.length : Int))).ok, trivial⟩ ⟨(by decide : 0 ≤ (0 : Int) ∧ (0 : Int) < (level_Pairs_lit.length : Int)), trivial⟩ (by kernel_rfl) (by kernel_rfl) (by kernel_rfl) ?_
  refine o_eff 2 _ rfl (by kernel_rfl) ?_
  refine e_alloc 32 (.agg #[.int .i64 0, .int .i64 0]) [.int .i64 0, .int .i64 0] rfl (by kernel_rfl) rfl hI ?_
  clear hI
  intro b86 _ hI
  refine o_eff 3 _ rfl (by kernel_rfl) ?_
  refine e_store 32 _ _ 3 b86 32 [.int .i64 0, .int .i64 0] [.int .i64 1, .int .i64 2] 0 (.agg #[.int .i64 1, .int .i64 2]) rfl (by kernel_rfl) (by kernel_rfl) (by kernel_rfl) (by kernel_rfl) hI rfl (by kernel_rfl) (by kernel_rfl) ?_
  clear hI
  intro _ hI
  refine r_out (by kernel_rfl) ?_
  refine go_seq ?_
  refine r_in ?_
  refine o_batch 0 [(b86, 0, [.int .i64 1, .int .i64 2])] [.p, .l 0 0, .p, .p] [(19, .pointer (some ⟨b86, 0, none⟩)), (20, .int .i64 1), (21, .int .i64 2), (22, .bool false)] [] ⟨(hI.grp 3 rfl), trivial⟩ trivial (by kernel_rfl) (by kernel_rfl) (by kernel_rfl) ?_
  refine r_out (by kernel_rfl) ?_
  refine go_else (by kernel_rfl) ?_
  refine go_skip ?_
  refine go_inBlock ?_
  refine r_in ?_
  refine o_batch 0 [] [.p, .p] [(32, .int .i64 1), (15, .int .i64 1)] [] trivial trivial (by kernel_rfl) (by kernel_rfl) (by kernel_rfl) ?_
  refine r_out (by kernel_rfl) ?_
  refine go_again ?_
  refine go_gen [(0, .pointer (some ⟨b1, 0, none⟩)), (1, .pointer (some ⟨b2, 0, none⟩)), (2, .int .i64 2), (13, .slice (some ⟨b85, 0, none⟩) level_Pairs_lit.length c84), (14, .int .i64 (level_Pairs_lit.length : Int)), (15, .int .i64 1)] (by kernel_rfl) ?_
  intro _
  replace hI := hI.pick (L' := [.blk b1 42 [.int .u16 0, .int .u16 0, .int .u16 0, .int .u16 0, .int .u16 0, .int .u16 0, .int .u16 0, .int .u16 0, .int .u16 0], .blk b2 42 [.int .u16 0, .int .u16 0, .int .u16 4, .int .u16 504, .int .u16 496, .int .u16 480, .int .u16 448, .int .u16 384, .int .u16 256], .row (Ty.flat 2 (fun x : Int × Int => [.int .i64 x.1, .int .i64 x.2]) (fun _ => rfl) (fun _ => oneAll rfl)) 32 (some ⟨b85, 0, none⟩) level_Pairs_lit.length c84 level_Pairs_lit]) [0, 1, 2] (by decide) rfl
  refine go_seq ?_
  refine r_in ?_
  refine o_batch 0 [] [.p] [(16, .bool true)] [] trivial trivial (by kernel_rfl) (by kernel_rfl) (by kernel_rfl) ?_
  refine r_out (by kernel_rfl) ?_
  refine go_seq ?_
  refine go_then (by kernel_rfl) ?_
  refine go_skip ?_
  refine go_seq ?_
  refine go_block ?_
  refine go_seq ?_
  refine r_in ?_
  refine o_batch 0 [(b85, 0 + (1 : Int).toNat * 2, [.int .i64 2, .int .i64 6])] [.x, .l 0 0] [(17, .pointer (some ⟨b85, 0 + (1 : Int).toNat * 2, none⟩)), (18, .agg #[.int .i64 2, .int .i64 6])] [(1, level_Pairs_lit.length)] ⟨(rdS.flook (hI.row 2 rfl) (hI.rowlen 2 rfl) (by decide : 0 ≤ (1 : Int) ∧ (1 : Int) < (level_Pairs_lit.length : Int))).ok, trivial⟩ ⟨(by decide : 0 ≤ (1 : Int) ∧ (1 : Int) < (level_Pairs_lit.length : Int)), trivial⟩ (by kernel_rfl) (by kernel_rfl) (by kernel_rfl) ?_
  refine o_eff 2 _ rfl (by kernel_rfl) ?_
  refine e_alloc 32 (.agg #[.int .i64 0, .int .i64 0]) [.int .i64 0, .int .i64 0] rfl (by kernel_rfl) rfl hI ?_
  clear hI
  intro b87 _ hI
  refine o_eff 3 _ rfl (by kernel_rfl) ?_
  refine e_store 32 _ _ 3 b87 32 [.int .i64 0, .int .i64 0] [.int .i64 2, .int .i64 6] 0 (.agg #[.int .i64 2, .int .i64 6]) rfl (by kernel_rfl) (by kernel_rfl) (by kernel_rfl) (by kernel_rfl) hI rfl (by kernel_rfl) (by kernel_rfl) ?_
  clear hI
  intro _ hI
  refine r_out (by kernel_rfl) ?_
  refine go_seq ?_
  refine r_in ?_
  refine o_batch 0 [(b87, 0, [.int .i64 2, .int .i64 6])] [.p, .l 0 0, .p, .p] [(19, .pointer (some ⟨b87, 0, none⟩)), (20, .int .i64 2), (21, .int .i64 2), (22, .bool true)] [] ⟨(hI.grp 3 rfl), trivial⟩ trivial (by kernel_rfl) (by kernel_rfl) (by kernel_rfl) ?_
  refine r_out (by kernel_rfl) ?_
  refine go_then (by kernel_rfl) ?_
  refine d_tail' 9 _ [(b2, 0, [.int .u16 0, .int .u16 0, .int .u16 4, .int .u16 504, .int .u16 496, .int .u16 480, .int .u16 448, .int .u16 384, .int .u16 256]), (b87, 0, [.int .i64 2, .int .i64 6])] [.p, .p, .l 0 2, .p, .l 1 1, .p, .l 0 6, .p, .p] [(23, .int .i64 2), (24, .pointer (some ⟨b2, 2, none⟩)), (25, .int .u16 4), (26, .pointer (some ⟨b87, 1, none⟩)), (27, .int .i64 6), (28, .pointer (some ⟨b2, 6, none⟩)), (29, .int .u16 448), (30, .int .u16 452), (31, .pointer (some ⟨b2, 2, none⟩))] [] (by kernel_rfl) (by kernel_rfl) rfl rfl ⟨(hI.grp 1 rfl), (hI.grp 3 rfl), trivial⟩ trivial (by kernel_rfl) (by kernel_rfl) (by kernel_rfl) (by kernel_rfl) hI ?_
  clear hI
  intro _ hI hsame
  refine e_store 41 _ _ 1 b2 42 [.int .u16 0, .int .u16 0, .int .u16 4, .int .u16 504, .int .u16 496, .int .u16 480, .int .u16 448, .int .u16 384, .int .u16 256] [.int .u16 0, .int .u16 0, .int .u16 452, .int .u16 504, .int .u16 496, .int .u16 480, .int .u16 448, .int .u16 384, .int .u16 256] 2 (.int .u16 452) rfl (by kernel_rfl) (by kernel_rfl) (by kernel_rfl) (by kernel_rfl) hI rfl (by kernel_rfl) (by kernel_rfl) ?_
  clear hI
  intro _ hI
  refine go_inBlock ?_
  refine r_in ?_
  refine o_batch 0 [] [.p, .p] [(32, .int .i64 2), (15, .int .i64 2)] [] trivial trivial (by kernel_rfl) (by kernel_rfl) (by kernel_rfl) ?_
  refine r_out (by kernel_rfl) ?_
  refine go_again ?_
  refine go_gen [(0, .pointer (some ⟨b1, 0, none⟩)), (1, .pointer (some ⟨b2, 0, none⟩)), (2, .int .i64 2), (13, .slice (some ⟨b85, 0, none⟩) level_Pairs_lit.length c84), (14, .int .i64 (level_Pairs_lit.length : Int)), (15, .int .i64 2)] (by kernel_rfl) ?_
  intro _
  replace hI := hI.pick (L' := [.blk b1 42 [.int .u16 0, .int .u16 0, .int .u16 0, .int .u16 0, .int .u16 0, .int .u16 0, .int .u16 0, .int .u16 0, .int .u16 0], .blk b2 42 [.int .u16 0, .int .u16 0, .int .u16 452, .int .u16 504, .int .u16 496, .int .u16 480, .int .u16 448, .int .u16 384, .int .u16 256], .row (Ty.flat 2 (fun x : Int × Int => [.int .i64 x.1, .int .i64 x.2]) (fun _ => rfl) (fun _ => oneAll rfl)) 32 (some ⟨b85, 0, none⟩) level_Pairs_lit.length c84 level_Pairs_lit]) [0, 1, 2] (by decide) rfl
  refine go_seq ?_
  refine r_in ?_
  refine o_batch 0 [] [.p] [(16, .bool true)] [] trivial trivial (by kernel_rfl) (by kernel_rfl) (by kernel_rfl) ?_
  refine r_out (by kernel_rfl) ?_
  refine go_seq ?_
  refine go_then (by kernel_rfl) ?_
  refine go_skip ?_
  refine go_seq ?_
  refine go_block ?_
  refine go_seq ?_
  refine r_in ?_
  refine o_batch 0 [(b85, 0 + (2 : Int).toNat * 2, [.int .i64 1, .int .i64 3])] [.x, .l 0 0] [(17, .pointer (some ⟨b85, 0 + (2 : Int).toNat * 2, none⟩)), (18, .agg #[.int .i64 1, .int .i64 3])] [(2, level_Pairs_lit.length)] ⟨(rdS.flook (hI.row 2 rfl) (hI.rowlen 2 rfl) (by decide : 0 ≤ (2 : Int) ∧ (2 : Int) < (level_Pairs_lit.length : Int))).ok, trivial⟩ ⟨(by decide : 0 ≤ (2 : Int) ∧ (2 : Int) < (level_Pairs_lit.length : Int)), trivial⟩ (by kernel_rfl) (by kernel_rfl) (by kernel_rfl) ?_
  refine o_eff 2 _ rfl (by kernel_rfl) ?_
  refine e_alloc 32 (.agg #[.int .i64 0, .int .i64 0]) [.int .i64 0, .int .i64 0] rfl (by kernel_rfl) rfl hI ?_
  clear hI
  intro b88 _ hI
  refine o_eff 3 _ rfl (by kernel_rfl) ?_
  refine e_store 32 _ _ 3 b88 32 [.int .i64 0, .int .i64 0] [.int .i64 1, .int .i64 3] 0 (.agg #[.int .i64 1, .int .i64 3]) rfl (by kernel_rfl) (by kernel_rfl) (by kernel_rfl) (by kernel_rfl) hI rfl (by kernel_rfl) (by kernel_rfl) ?_
  clear hI
  intro _ hI
  refine r_out (by kernel_rfl) ?_
  refine go_seq ?_
  refine r_in ?_
  refine o_batch 0 [(b88, 0, [.int .i64 1, .int .i64 3])] [.p, .l 0 0, .p, .p] [(19, .pointer (some ⟨b88, 0, none⟩)), (20, .int .i64 1), (21, .int .i64 2), (22, .bool false)] [] ⟨(hI.grp 3 rfl), trivial⟩ trivial (by kernel_rfl) (by kernel_rfl) (by kernel_rfl) ?_
  refine r_out (by kernel_rfl) ?_
  refine go_else (by kernel_rfl) ?_
  refine go_skip ?_
  refine go_inBlock ?_
  refine r_in ?_
  refine o_batch 0 [] [.p, .p] [(32, .int .i64 3), (15, .int .i64 3)] [] trivial trivial (by kernel_rfl) (by kernel_rfl) (by kernel_rfl) ?_
  refine r_out (by kernel_rfl) ?_
  refine go_again ?_
  refine go_gen [(0, .pointer (some ⟨b1, 0, none⟩)), (1, .pointer (some ⟨b2, 0, none⟩)), (2, .int .i64 2), (13, .slice (some ⟨b85, 0, none⟩) level_Pairs_lit.length c84), (14, .int .i64 (level_Pairs_lit.length : Int)), (15, .int .i64 3)] (by kernel_rfl) ?_
  intro _
  replace hI := hI.pick (L' := [.blk b1 42 [.int .u16 0, .int .u16 0, .int .u16 0, .int .u16 0, .int .u16 0, .int .u16 0, .int .u16 0, .int .u16 0, .int .u16 0], .blk b2 42 [.int .u16 0, .int .u16 0, .int .u16 452, .int .u16 504, .int .u16 496, .int .u16 480, .int .u16 448, .int .u16 384, .int .u16 256], .row (Ty.flat 2 (fun x : Int × Int => [.int .i64 x.1, .int .i64 x.2]) (fun _ => rfl) (fun _ => oneAll rfl)) 32 (some ⟨b85, 0, none⟩) level_Pairs_lit.length c84 level_Pairs_lit]) [0, 1, 2] (by decide) rfl
  refine go_seq ?_
  refine r_in ?_
  refine o_batch 0 [] [.p] [(16, .bool true)] [] trivial trivial (by kernel_rfl) (by kernel_rfl) (by kernel_rfl) ?_
  refine r_out (by kernel_rfl) ?_
  refine go_seq ?_
  refine go_then (by kernel_rfl) ?_
  refine go_skip ?_
  refine go_seq ?_
  refine go_block ?_
  refine go_seq ?_
  refine r_in ?_
  refine o_batch 0 [(b85, 0 + (3 : Int).toNat * 2, [.int .i64 3, .int .i64 4])] [.x, .l 0 0] [(17, .pointer (some ⟨b85, 0 + (3 : Int).toNat * 2, none⟩)), (18, .agg #[.int .i64 3, .int .i64 4])] [(3, level_Pairs_lit.length)] ⟨(rdS.flook (hI.row 2 rfl) (hI.rowlen 2 rfl) (by decide : 0 ≤ (3 : Int) ∧ (3 : Int) < (level_Pairs_lit.length : Int))).ok, trivial⟩ ⟨(by decide : 0 ≤ (3 : Int) ∧ (3 : Int) < (level_Pairs_lit.length : Int)), trivial⟩ (by kernel_rfl) (by kernel_rfl) (by kernel_rfl) ?_
  refine o_eff 2 _ rfl (by kernel_rfl) ?_
  refine e_alloc 32 (.agg #[.int .i64 0, .int .i64 0]) [.int .i64 0, .int .i64 0] rfl (by kernel_rfl) rfl hI ?_
  clear hI
  intro b89 _ hI
  refine o_eff 3 _ rfl (by kernel_rfl) ?_
  refine e_store 32 _ _ 3 b89 32 [.int .i64 0, .int .i64 0] [.int .i64 3, .int .i64 4] 0 (.agg #[.int .i64 3, .int .i64 4]) rfl (by kernel_rfl) (by kernel_rfl) (by kernel_rfl) (by kernel_rfl) hI rfl (by kernel_rfl) (by kernel_rfl) ?_
  clear hI
  intro _ hI
  refine r_out (by kernel_rfl) ?_
  refine go_seq ?_
  refine r_in ?_
  refine o_batch 0 [(b89, 0, [.int .i64 3, .int .i64 4])] [.p, .l 0 0, .p, .p] [(19, .pointer (some ⟨b89, 0, none⟩)), (20, .int .i64 3), (21, .int .i64 2), (22, .bool false)] [] ⟨(hI.grp 3 rfl), trivial⟩ trivial (by kernel_rfl) (by kernel_rfl) (by kernel_rfl) ?_
  refine r_out (by kernel_rfl) ?_
  refine go_else (by kernel_rfl) ?_
  refine go_skip ?_
  refine go_inBlock ?_
  refine r_in ?_
  refine o_batch 0 [] [.p, .p] [(32, .int .i64 4), (15, .int .i64 4)] [] trivial trivial (by kernel_rfl) (by kernel_rfl) (by kernel_rfl) ?_
  refine r_out (by kernel_rfl) ?_
  refine go_again ?_
  refine go_gen [(0, .pointer (some ⟨b1, 0, none⟩)), (1, .pointer (some ⟨b2, 0, none⟩)), (2, .int .i64 2), (13, .slice (some ⟨b85, 0, none⟩) level_Pairs_lit.length c84), (14, .int .i64 (level_Pairs_lit.length : Int)), (15, .int .i64 4)] (by kernel_rfl) ?_
  intro _
  replace hI := hI.pick (L' := [.blk b1 42 [.int .u16 0, .int .u16 0, .int .u16 0, .int .u16 0, .int .u16 0, .int .u16 0, .int .u16 0, .int .u16 0, .int .u16 0], .blk b2 42 [.int .u16 0, .int .u16 0, .int .u16 452, .int .u16 504, .int .u16 496, .int .u16 480, .int .u16 448, .int .u16 384, .int .u16 256], .row (Ty.flat 2 (fun x : Int × Int => [.int .i64 x.1, .int .i64 x.2]) (fun _ => rfl) (fun _ => oneAll rfl)) 32 (some ⟨b85, 0, none⟩) level_Pairs_lit.length c84 level_Pairs_lit]) [0, 1, 2] (by decide) rfl
  refine go_seq ?_
  refine r_in ?_
  refine o_batch 0 [] [.p] [(16, .bool true)] [] trivial trivial (by kernel_rfl) (by kernel_rfl) (by kernel_rfl) ?_
  refine r_out (by kernel_rfl) ?_
  refine go_seq ?_
  refine go_then (by kernel_rfl) ?_
  refine go_skip ?_
  refine go_seq ?_
  refine go_block ?_
  refine go_seq ?_
  refine r_in ?_
  refine o_batch 0 [(b85, 0 + (4 : Int).toNat * 2, [.int .i64 4, .int .i64 5])] [.x, .l 0 0] [(17, .pointer (some ⟨b85, 0 + (4 : Int).toNat * 2, none⟩)), (18, .agg #[.int .i64 4, .int .i64 5])] [(4, level_Pairs_lit.length)] ⟨(rdS.flook (hI.row 2 rfl) (hI.rowlen 2 rfl) (by decide : 0 ≤ (4 : Int) ∧ (4 : Int) < (level_Pairs_lit.length : Int))).ok, trivial⟩ ⟨(by decide : 0 ≤ (4 : Int) ∧ (4 : Int) < (level_Pairs_lit.length : Int)), trivial⟩ (by kernel_rfl) (by kernel_rfl) (by kernel_rfl) ?_
  refine o_eff 2 _ rfl (by kernel_rfl) ?_
  refine e_alloc 32 (.agg #[.int .i64 0, .int .i64 0]) [.int .i64 0, .int .i64 0] rfl (by kernel_rfl) rfl hI ?_
  clear hI
  intro b90 _ hI
  refine o_eff 3 _ rfl (by kernel_rfl) ?_
  refine e_store 32 _ _ 3 b90 32 [.int .i64 0, .int .i64 0] [.int .i64 4, .int .i64 5] 0 (.agg #[.int .i64 4, .int .i64 5]) rfl (by kernel_rfl) (by kernel_rfl) (by kernel_rfl) (by kernel_rfl) hI rfl (by kernel_rfl) (by kernel_rfl) ?_
  clear hI
  intro _ hI
  refine r_out (by kernel_rfl) ?_
  refine go_seq ?_
  refine r_in ?_
  refine o_batch 0 [(b90, 0, [.int .i64 4, .int .i64 5])] [.p, .l 0 0, .p, .p] [(19, .pointer (some ⟨b90, 0, none⟩)), (20, .int .i64 4), (21, .int .i64 2), (22, .bool false)] [] ⟨(hI.grp 3 rfl), trivial⟩ trivial (by kernel_rfl) (by kernel_rfl) (by kernel_rfl) ?_
  refine r_out (by kernel_rfl) ?_
  refine go_else (by kernel_rfl) ?_
  refine go_skip ?_
  refine go_inBlock ?_
  refine r_in ?_
  refine o_batch 0 [] [.p, .p] [(32, .int .i64 5), (15, .int .i64 5)] [] trivial trivial (by kernel_rfl) (by kernel_rfl) (by kernel_rfl) ?_
  refine r_out (by kernel_rfl) ?_
  refine go_again ?_
  refine go_gen [(0, .pointer (some ⟨b1, 0, none⟩)), (1, .pointer (some ⟨b2, 0, none⟩)), (2, .int .i64 2), (13, .slice (some ⟨b85, 0, none⟩) level_Pairs_lit.length c84), (14, .int .i64 (level_Pairs_lit.length : Int)), (15, .int .i64 5)] (by kernel_rfl) ?_
  intro _
  replace hI := hI.pick (L' := [.blk b1 42 [.int .u16 0, .int .u16 0, .int .u16 0, .int .u16 0, .int .u16 0, .int .u16 0, .int .u16 0, .int .u16 0, .int .u16 0], .blk b2 42 [.int .u16 0, .int .u16 0, .int .u16 452, .int .u16 504, .int .u16 496, .int .u16 480, .int .u16 448, .int .u16 384, .int .u16 256], .row (Ty.flat 2 (fun x : Int × Int => [.int .i64 x.1, .int .i64 x.2]) (fun _ => rfl) (fun _ => oneAll rfl)) 32 (some ⟨b85, 0, none⟩) level_Pairs_lit.length c84 level_Pairs_lit]) [0, 1, 2] (by decide) rfl
  refine go_seq ?_
  refine r_in ?_
  refine o_batch 0 [] [.p] [(16, .bool true)] [] trivial trivial (by kernel_rfl) (by kernel_rfl) (by kernel_rfl) ?_
  refine r_out (by kernel_rfl) ?_
  refine go_seq ?_
  refine go_then (by kernel_rfl) ?_
  refine go_skip ?_
  refine go_seq ?_
  refine go_block ?_
  refine go_seq ?_
  refine r_in ?_
  refine o_batch 0 [(b85, 0 + (5 : Int).toNat * 2, [.int .i64 5, .int .i64 6])] [.x, .l 0 0] [(17, .pointer (some ⟨b85, 0 + (5 : Int).toNat * 2, none⟩)), (18, .agg #[.int .i64 5, .int .i64 6])] [(5, level_Pairs_lit.length)] ⟨(rdS.flook (hI.row 2 rfl) (hI.rowlen 2 rfl) (by decide : 0 ≤ (5 : Int) ∧ (5 : Int) < (level_Pairs_lit.length : Int))).ok, trivial⟩ ⟨(by decide : 0 ≤ (5 : Int) ∧ (5 : Int) < (level_Pairs_lit.length : Int)), trivial⟩ (by kernel_rfl) (by kernel_rfl) (by kernel_rfl) ?_
  refine o_eff 2 _ rfl (by kernel_rfl) ?_
  refine e_alloc 32 (.agg #[.int .i64 0, .int .i64 0]) [.int .i64 0, .int .i64 0] rfl (by kernel_rfl) rfl hI ?_
  clear hI
  intro b91 _ hI
  refine o_eff 3 _ rfl (by kernel_rfl) ?_
  refine e_store 32 _ _ 3 b91 32 [.int .i64 0, .int .i64 0] [.int .i64 5, .int .i64 6] 0 (.agg #[.int .i64 5, .int .i64 6]) rfl (by kernel_rfl) (by kernel_rfl) (by kernel_rfl) (by kernel_rfl) hI rfl (by kernel_rfl) (by kernel_rfl) ?_
  clear hI
  intro _ hI
  refine r_out (by kernel_rfl) ?_
  refine go_seq ?_
  refine r_in ?_
  refine o_batch 0 [(b91, 0, [.int .i64 5, .int .i64 6])] [.p, .l 0 0, .p, .p] [(19, .pointer (some ⟨b91, 0, none⟩)), (20, .int .i64 5), (21, .int .i64 2), (22, .bool false)] [] ⟨(hI.grp 3 rfl), trivial⟩ trivial (by kernel_rfl) (by kernel_rfl) (by kernel_rfl) ?_
  refine r_out (by kernel_rfl) ?_
  refine go_else (by kernel_rfl) ?_
  refine go_skip ?_
  refine go_inBlock ?_
  refine r_in ?_
  refine o_batch 0 [] [.p, .p] [(32, .int .i64 6), (15, .int .i64 6)] [] trivial trivial (by kernel_rfl) (by kernel_rfl) (by kernel_rfl) ?_
  refine r_out (by kernel_rfl) ?_
  refine go_again ?_
  refine go_gen [(0, .pointer (some ⟨b1, 0, none⟩)), (1, .pointer (some ⟨b2, 0, none⟩)), (2, .int .i64 2), (13, .slice (some ⟨b85, 0, none⟩) level_Pairs_lit.length c84), (14, .int .i64 (level_Pairs_lit.length : Int)), (15, .int .i64 6)] (by kernel_rfl) ?_
  intro _
  replace hI := hI.pick (L' := [.blk b1 42 [.int .u16 0, .int .u16 0, .int .u16 0, .int .u16 0, .int .u16 0, .int .u16 0, .int .u16 0, .int .u16 0, .int .u16 0], .blk b2 42 [.int .u16 0, .int .u16 0, .int .u16 452, .int .u16 504, .int .u16 496, .int .u16 480, .int .u16 448, .int .u16 384, .int .u16 256], .row (Ty.flat 2 (fun x : Int × Int => [.int .i64 x.1, .int .i64 x.2]) (fun _ => rfl) (fun _ => oneAll rfl)) 32 (some ⟨b85, 0, none⟩) level_Pairs_lit.length c84 level_Pairs_lit]) [0, 1, 2] (by decide) rfl
  refine go_seq ?_
  refine r_in ?_
  refine o_batch 0 [] [.p] [(16, .bool true)] [] trivial trivial (by kernel_rfl) (by kernel_rfl) (by kernel_rfl) ?_
  refine r_out (by kernel_rfl) ?_
  refine go_seq ?_
  refine go_then (by kernel_rfl) ?_
  refine go_skip ?_
  refine go_seq ?_
  refine go_block ?_
  refine go_seq ?_
  refine r_in ?_
  refine o_batch 0 [(b85, 0 + (6 : Int).toNat * 2, [.int .i64 6, .int .i64 7])] [.x, .l 0 0] [(17, .pointer (some ⟨b85, 0 + (6 : Int).toNat * 2, none⟩)), (18, .agg #[.int .i64 6, .int .i64 7])] [(6, level_Pairs_lit.length)] ⟨(rdS.flook (hI.row 2 rfl) (hI.rowlen 2 rfl) (by decide : 0 ≤ (6 : Int) ∧ (6 : Int) < (level_Pairs_lit.length : Int))).ok, trivial⟩ ⟨(by decide : 0 ≤ (6 : Int) ∧ (6 : Int) < (level_Pairs_lit.length : Int)), trivial⟩ (by kernel_rfl) (by kernel_rfl) (by kernel_rfl) ?_
  refine o_eff 2 _ rfl (by kernel_rfl) ?_
  refine e_alloc 32 (.agg #[.int .i64 0, .int .i64 0]) [.int .i64 0, .int .i64 0] rfl (by kernel_rfl) rfl hI ?_
  clear hI
  intro b92 _ hI
  refine o_eff 3 _ rfl (by kernel_rfl) ?_
  refine e_store 32 _ _ 3 b92 32 [.int .i64 0, .int .i64 0] [.int .i64 6, .int .i64 7] 0 (.agg #[.int .i64 6, .int .i64 7]) rfl (by kernel_rfl) (by kernel_rfl) (by kernel_rfl) (by kernel_rfl) hI rfl (by kernel_rfl) (by kernel_rfl) ?_
  clear hI
  intro _ hI
  refine r_out (by kernel_rfl) ?_
  refine go_seq ?_
  refine r_in ?_
  refine o_batch 0 [(b92, 0, [.int .i64 6, .int .i64 7])] [.p, .l 0 0, .p, .p] [(19, .pointer (some ⟨b92, 0, none⟩)), (20, .int .i64 6), (21, .int .i64 2), (22, .bool false)] [] ⟨(hI.grp 3 rfl), trivial⟩ trivial (by kernel_rfl) (by kernel_rfl) (by kernel_rfl) ?_
  refine r_out (by kernel_rfl) ?_
  refine go_else (by kernel_rfl) ?_
  refine go_skip ?_
  refine go_inBlock ?_
  refine r_in ?_
  refine o_batch 0 [] [.p, .p] [(32, .int .i64 7), (15, .int .i64 7)] [] trivial trivial (by kernel_rfl) (by kernel_rfl) (by kernel_rfl) ?_
  refine r_out (by kernel_rfl) ?_
  refine go_again ?_
  refine go_gen [(0, .pointer (some ⟨b1, 0, none⟩)), (1, .pointer (some ⟨b2, 0, none⟩)), (2, .int .i64 2), (13, .slice (some ⟨b85, 0, none⟩) level_Pairs_lit.length c84), (14, .int .i64 (level_Pairs_lit.length : Int)), (15, .int .i64 7)] (by kernel_rfl) ?_
  intro _
  replace hI := hI.pick (L' := [.blk b1 42 [.int .u16 0, .int .u16 0, .int .u16 0, .int .u16 0, .int .u16 0, .int .u16 0, .int .u16 0, .int .u16 0, .int .u16 0], .blk b2 42 [.int .u16 0, .int .u16 0, .int .u16 452, .int .u16 504, .int .u16 496, .int .u16 480, .int .u16 448, .int .u16 384, .int .u16 256], .row (Ty.flat 2 (fun x : Int × Int => [.int .i64 x.1, .int .i64 x.2]) (fun _ => rfl) (fun _ => oneAll rfl)) 32 (some ⟨b85, 0, none⟩) level_Pairs_lit.length c84 level_Pairs_lit]) [0, 1, 2] (by decide) rfl
  refine go_seq ?_
  refine r_in ?_
  refine o_batch 0 [] [.p] [(16, .bool true)] [] trivial trivial (by kernel_rfl) (by kernel_rfl) (by kernel_rfl) ?_
  refine r_out (by kernel_rfl) ?_
  refine go_seq ?_
  refine go_then (by kernel_rfl) ?_
  refine go_skip ?_
  refine go_seq ?_
  refine go_block ?_
  refine go_seq ?_
  refine r_in ?_
  refine o_batch 0 [(b85, 0 + (7 : Int).toNat * 2, [.int .i64 7, .int .i64 8])] [.x, .l 0 0] [(17, .pointer (some ⟨b85, 0 + (7 : Int).toNat * 2, none⟩)), (18, .agg #[.int .i64 7, .int .i64 8])] [(7, level_Pairs_lit.length)] ⟨(rdS.flook (hI.row 2 rfl) (hI.rowlen 2 rfl) (by decide : 0 ≤ (7 : Int) ∧ (7 : Int) < (level_Pairs_lit.length : Int))).ok, trivial⟩ ⟨(by decide : 0 ≤ (7 : Int) ∧ (7 : Int) < (level_Pairs_lit.length : Int)), trivial⟩ (by kernel_rfl) (by kernel_rfl) (by kernel_rfl) ?_
  refine o_eff 2 _ rfl (by kernel_rfl) ?_
  refine e_alloc 32 (.agg #[.int .i64 0, .int .i64 0]) [.int .i64 0, .int .i64 0] rfl (by kernel_rfl) rfl hI ?_
  clear hI
  intro b93 _ hI
  refine o_eff 3 _ rfl (by kernel_rfl) ?_
  refine e_store 32 _ _ 3 b93 32 [.int .i64 0, .int .i64 0] [.int .i64 7, .int .i64 8] 0 (.agg #[.int .i64 7, .int .i64 8]) rfl (by kernel_rfl) (by kernel_rfl) (by kernel_rfl) (by kernel_rfl) hI rfl (by kernel_rfl) (by kernel_rfl) ?_
  clear hI
  intro _ hI
  refine r_out (by kernel_rfl) ?_
  refine go_seq ?_
  refine r_in ?_
  refine o_batch 0 [(b93, 0, [.int .i64 7, .int .i64 8])] [.p, .l 0 0, .p, .p] [(19, .pointer (some ⟨b93, 0, none⟩)), (20, .int .i64 7), (21, .int .i64 2), (22, .bool false)] [] ⟨(hI.grp 3 rfl), trivial⟩ trivial (by kernel_rfl) (by kernel_rfl) (by kernel_rfl) ?_
  refine r_out (by kernel_rfl) ?_
  refine go_else (by kernel_rfl) ?_
  refine go_skip ?_
  refine go_inBlock ?_
  refine r_in ?_
  refine o_batch 0 [] [.p, .p] [(32, .int .i64 8), (15, .int .i64 8)] [] trivial trivial (by kernel_rfl) (by kernel_rfl) (by kernel_rfl) ?_
  refine r_out (by kernel_rfl) ?_
  refine go_again ?_
  refine go_gen [(0, .pointer (some ⟨b1, 0, none⟩)), (1, .pointer (some ⟨b2, 0, none⟩)), (2, .int .i64 2), (13, .slice (some ⟨b85, 0, none⟩) level_Pairs_lit.length c84), (14, .int .i64 (level_Pairs_lit.length : Int)), (15, .int .i64 8)] (by kernel_rfl) ?_
  intro _
  replace hI := hI.pick (L' := [.blk b1 42 [.int .u16 0, .int .u16 0, .int .u16 0, .int .u16 0, .int .u16 0, .int .u16 0, .int .u16 0, .int .u16 0, .int .u16 0], .blk b2 42 [.int .u16 0, .int .u16 0, .int .u16 452, .int .u16 504, .int .u16 496, .int .u16 480, .int .u16 448, .int .u16 384, .int .u16 256], .row (Ty.flat 2 (fun x : Int × Int => [.int .i64 x.1, .int .i64 x.2]) (fun _ => rfl) (fun _ => oneAll rfl)) 32 (some ⟨b85, 0, none⟩) level_Pairs_lit.length c84 level_Pairs_lit]) [0, 1, 2] (by decide) rfl
  refine go_seq ?_
  refine r_in ?_
  refine o_batch 0 [] [.p] [(16, .bool false)] [] trivial trivial (by kernel_rfl) (by kernel_rfl) (by kernel_rfl) ?_
  refine r_out (by kernel_rfl) ?_
  refine go_seq ?_
  refine go_else (by kernel_rfl) ?_
  refine go_exit rfl ?_
  refine go_inBlock ?_
  refine r_in ?_
  refine o_batch 0 [] [.p, .p, .p] [(7, .int .i64 2), (8, .int .i64 1), (2, .int .i64 1)] [] trivial trivial (by kernel_rfl) (by kernel_rfl) (by kernel_rfl) ?_
  refine r_out (by kernel_rfl) ?_
  refine go_again ?_
  refine go_gen [(0, .pointer (some ⟨b1, 0, none⟩)), (1, .pointer (some ⟨b2, 0, none⟩)), (2, .int .i64 1)] (by kernel_rfl) ?_
  intro _
  replace hI := hI.pick (L' := [.blk b1 42 [.int .u16 0, .int .u16 0, .int .u16 0, .int .u16 0, .int .u16 0, .int .u16 0, .int .u16 0, .int .u16 0, .int .u16 0], .blk b2 42 [.int .u16 0, .int .u16 0, .int .u16 452, .int .u16 504, .int .u16 496, .int .u16 480, .int .u16 448, .int .u16 384, .int .u16 256]]) [0, 1] (by decide) rfl
  refine go_seq ?_
  refine go_seq ?_
  refine r_in ?_
  refine o_batch 0 [] [.p, .p] [(5, .int .i64 1), (6, .bool true)] [] trivial trivial (by kernel_rfl) (by kernel_rfl) (by kernel_rfl) ?_
  refine r_out (by kernel_rfl) ?_
  refine go_then (by kernel_rfl) ?_
  refine go_skip ?_
  refine go_seq ?_
  refine go_block ?_
  refine go_seq ?_
  refine r_in ?_
  refine o_batch 0 [] [.p, .p, .x, .p] [(9, .int .i64 1), (10, .int .i64 1), (11, .int .u16 2), (12, .pointer (some ⟨b2, 1, none⟩))] [(1, far)] trivial ⟨(by decide), trivial⟩ (by kernel_rfl) (by kernel_rfl) (by kernel_rfl) ?_
  refine o_eff 4 _ rfl (by kernel_rfl) ?_
  refine e_store 41 _ _ 1 b2 42 [.int .u16 0, .int .u16 0, .int .u16 452, .int .u16 504, .int .u16 496, .int .u16 480, .int .u16 448, .int .u16 384, .int .u16 256] [.int .u16 0, .int .u16 2, .int .u16 452, .int .u16 504, .int .u16 496, .int .u16 480, .int .u16 448, .int .u16 384, .int .u16 256] 1 (.int .u16 2) rfl (by kernel_rfl) (by kernel_rfl) (by kernel_rfl) (by kernel_rfl) hI rfl (by kernel_rfl) (by kernel_rfl) ?_
  clear hI
  intro _ hI
  refine r_out (by kernel_rfl) ?_
  refine go_seq ?_
  refine r_in ?_
  replace H := bind_some H
  obtain ⟨y94, hy95, H⟩ := H
  have hyc : y94 = level_Pairs_lit := (Option.some.inj hy95).symm
  subst hyc
  refine o_eff 0 _ rfl (by kernel_rfl) ?_
  refine e_callf _ _ _ 14 #[] #[] #[] #[] rfl (by kernel_rfl) (by kernel_rfl) (by kernel_rfl) (enter14 _) (level_Pairs_calls (memOf _) _ (Inv.start _) _ hy95) ?_
  rintro _ _ ⟨A96, c97, rfl, hI'⟩
  replace hI := hI.call0 hI'
  clear hI'
  refine ⟨_, rfl, ?_⟩
  refine o_batch 1 [] [.p, .p] [(14, .int .i64 (level_Pairs_lit.length : Int)), (15, .int .i64 0)] [] trivial trivial (by kernel_rfl) (by kernel_rfl) (by kernel_rfl) ?_
  refine r_out (by kernel_rfl) ?_
  refine go_block ?_
  refine go_loop ?_
  refine go_seq ?_
  refine r_in ?_
  refine o_batch 0 [] [.p] [(16, .bool true)] [] trivial trivial (by kernel_rfl) (by kernel_rfl) (by kernel_rfl) ?_
  refine r_out (by kernel_rfl) ?_
  refine go_seq ?_
  refine go_then (by kernel_rfl) ?_
  refine go_skip ?_
  refine go_seq ?_
  refine go_block ?_
  refine go_seq ?_
  refine r_in ?_
  obtain ⟨b98, rfl⟩ := hI.rowAt 2 rfl (by decide : 0 ≤ (0 : Int) ∧ (0 : Int) < (level_Pairs_lit.length : Int))
  refine o_batch 0 [(b98, 0 + (0 : Int).toNat * 2, [.int .i64 1, .int .i64 2])] [.x, .l 0 0] [(17, .pointer (some ⟨b98, 0 + (0 : Int).toNat * 2, none⟩)), (18, .agg #[.int .i64 1, .int .i64 2])] [(0, level_Pairs_lit.length)] ⟨(rdS.flook (hI.row 2 rfl) (hI.rowlen 2 rfl) (by decide : 0 ≤ (0 : Int) ∧ (0 : Int) < (level_Pairs_lit.length : Int))).ok, trivial⟩ ⟨(by decide : 0 ≤ (0 : Int) ∧ (0 : Int) < (level_Pairs_lit.length : Int)), trivial⟩ (by kernel_rfl) (by kernel_rfl) (by kernel_rfl) ?_
  refine o_eff 2 _ rfl (by kernel_rfl) ?_
  refine e_alloc 32 (.agg #[.int .i64 0, .int .i64 0]) [.int .i64 0, .int .i64 0] rfl (by kernel_rfl) rfl hI ?_
  clear hI
  intro b99 _ hI
  refine o_eff 3 _ rfl (by kernel_rfl) ?_
  refine e_store 32 _ _ 3 b99 32 [.int .i64 0, .int .i64 0] [.int .i64 1, .int .i64 2] 0 (.agg #[.int .i64 1, .int .i64 2]) rfl (by kernel_rfl) (by kernel_rfl) (by kernel_rfl) (by kernel_rfl) hI rfl (by kernel_rfl) (by kernel_rfl) ?_
  clear hI
  intro _ hI
  refine r_out (by kernel_rfl) ?_
  refine go_seq ?_
  refine r_in ?_
  refine o_batch 0 [(b99, 0, [.int .i64 1, .int .i64 2])] [.p, .l 0 0, .p, .p] [(19, .pointer (some ⟨b99, 0, none⟩)), (20, .int .i64 1), (21, .int .i64 1), (22, .bool true)] [] ⟨(hI.grp 3 rfl), trivial⟩ trivial (by kernel_rfl) (by kernel_rfl) (by kernel_rfl) ?_
  refine r_out (by kernel_rfl) ?_
  refine go_then (by kernel_rfl) ?_
  refine d_tail' 9 _ [(b2, 0, [.int .u16 0, .int .u16 2, .int .u16 452, .int .u16 504, .int .u16 496, .int .u16 480, .int .u16 448, .int .u16 384, .int .u16 256]), (b99, 0, [.int .i64 1, .int .i64 2])] [.p, .p, .l 0 1, .p, .l 1 1, .p, .l 0 2, .p, .p] [(23, .int .i64 1), (24, .pointer (some ⟨b2, 1, none⟩)), (25, .int .u16 2), (26, .pointer (some ⟨b99, 1, none⟩)), (27, .int .i64 2), (28, .pointer (some ⟨b2, 2, none⟩)), (29, .int .u16 452), (30, .int .u16 454), (31, .pointer (some ⟨b2, 1, none⟩))] [] (by kernel_rfl) (by kernel_rfl) rfl rfl ⟨(hI.grp 1 rfl), (hI.grp 3 rfl), trivial⟩ trivial (by kernel_rfl) (by kernel_rfl) (by kernel_rfl) (by kernel_rfl) hI ?_
  clear hI
  intro _ hI hsame
  refine e_store 41 _ _ 1 b2 42 [.int .u16 0, .int .u16 2, .int .u16 452, .int .u16 504, .int .u16 496, .int .u16 480, .int .u16 448, .int .u16 384, .int .u16 256] [.int .u16 0, .int .u16 454, .int .u16 452, .int .u16 504, .int .u16 496, .int .u16 480, .int .u16 448, .int .u16 384, .int .u16 256] 1 (.int .u16 454) rfl (by kernel_rfl) (by kernel_rfl) (by kernel_rfl) (by kernel_rfl) hI rfl (by kernel_rfl) (by kernel_rfl) ?_
  clear hI
  intro _ hI
  refine go_inBlock ?_
  refine r_in ?_
  refine o_batch 0 [] [.p, .p] [(32, .int .i64 1), (15, .int .i64 1)] [] trivial trivial (by kernel_rfl) (by kernel_rfl) (by kernel_rfl) ?_
  refine r_out (by kernel_rfl) ?_
  refine go_again ?_
  refine go_gen [(0, .pointer (some ⟨b1, 0, none⟩)), (1, .pointer (some ⟨b2, 0, none⟩)), (2, .int .i64 1), (13, .slice (some ⟨b98, 0, none⟩) level_Pairs_lit.length c97), (14, .int .i64 (level_Pairs_lit.length : Int)), (15, .int .i64 1)] (by kernel_rfl) ?_
  intro _
  replace hI := hI.pick (L' := [.blk b1 42 [.int .u16 0, .int .u16 0, .int .u16 0, .int .u16 0, .int .u16 0, .int .u16 0, .int .u16 0, .int .u16 0, .int .u16 0], .blk b2 42 [.int .u16 0, .int .u16 454, .int .u16 452, .int .u16 504, .int .u16 496, .int .u16 480, .int .u16 448, .int .u16 384, .int .u16 256], .row (Ty.flat 2 (fun x : Int × Int => [.int .i64 x.1, .int .i64 x.2]) (fun _ => rfl) (fun _ => oneAll rfl)) 32 (some ⟨b98, 0, none⟩) level_Pairs_lit.length c97 level_Pairs_lit]) [0, 1, 2] (by decide) rfl
  refine go_seq ?_
  refine r_in ?_
  refine o_batch 0 [] [.p] [(16, .bool true)] [] trivial trivial (by kernel_rfl) (by kernel_rfl) (by kernel_rfl) ?_
  refine r_out (by kernel_rfl) ?_
  refine go_seq ?_
  refine go_then (by kernel_rfl) ?_
  refine go_skip ?_
  refine go_seq ?_
  refine go_block ?_
  refine go_seq ?_
  refine r_in ?_
  refine o_batch 0 [(b98, 0 + (1 : Int).toNat * 2, [.int .i64 2, .int .i64 6])] [.x, .l 0 0] [(17, .pointer (some ⟨b98, 0 + (1 : Int).toNat * 2, none⟩)), (18, .agg #[.int .i64 2, .int .i64 6])] [(1, level_Pairs_lit.length)] ⟨(rdS.flook (hI.row 2 rfl) (hI.rowlen 2 rfl) (by decide : 0 ≤ (1 : Int) ∧ (1 : Int) < (level_Pairs_lit.length : Int))).ok, trivial⟩ ⟨(by decide : 0 ≤ (1 : Int) ∧ (1 : Int) < (level_Pairs_lit.length : Int)), trivial⟩ (by kernel_rfl) (by kernel_rfl) (by kernel_rfl) ?_
  refine o_eff 2 _ rfl (by kernel_rfl) ?_
  refine e_alloc 32 (.agg #[.int .i64 0, .int .i64 0]) [.int .i64 0, .int .i64 0] rfl (by kernel_rfl) rfl hI ?_
  clear hI
  intro b100 _ hI
  refine o_eff 3 _ rfl (by kernel_rfl) ?_
  refine e_store 32 _ _ 3 b100 32 [.int .i64 0, .int .i64 0] [.int .i64 2, .int .i64 6] 0 (.agg #[.int .i64 2, .int .i64 6]) rfl (by kernel_rfl) (by kernel_rfl) (by kernel_rfl) (by kernel_rfl) hI rfl (by kernel_rfl) (by kernel_rfl) ?_
  clear hI
  intro _ hI
  refine r_out (by kernel_rfl) ?_
  refine go_seq ?_
  refine r_in ?_
  refine o_batch 0 [(b100, 0, [.int .i64 2, .int .i64 6])] [.p, .l 0 0, .p, .p] [(19, .pointer (some ⟨b100, 0, none⟩)), (20, .int .i64 2), (21, .int .i64 1), (22, .bool false)] [] ⟨(hI.grp 3 rfl), trivial⟩ trivial (by kernel_rfl) (by kernel_rfl) (by kernel_rfl) ?_
  refine r_out (by kernel_rfl) ?_
  refine go_else (by kernel_rfl) ?_
  refine go_skip ?_
  refine go_inBlock ?_
  refine r_in ?_
  refine o_batch 0 [] [.p, .p] [(32, .int .i64 2), (15, .int .i64 2)] [] trivial trivial (by kernel_rfl) (by kernel_rfl) (by kernel_rfl) ?_
  refine r_out (by kernel_rfl) ?_
  refine go_again ?_
  refine go_gen [(0, .pointer (some ⟨b1, 0, none⟩)), (1, .pointer (some ⟨b2, 0, none⟩)), (2, .int .i64 1), (13, .slice (some ⟨b98, 0, none⟩) level_Pairs_lit.length c97), (14, .int .i64 (level_Pairs_lit.length : Int)), (15, .int .i64 2)] (by kernel_rfl) ?_
  intro _
  replace hI := hI.pick (L' := [.blk b1 42 [.int .u16 0, .int .u16 0, .int .u16 0, .int .u16 0, .int .u16 0, .int .u16 0, .int .u16 0, .int .u16 0, .int .u16 0], .blk b2 42 [.int .u16 0, .int .u16 454, .int .u16 452, .int .u16 504, .int .u16 496, .int .u16 480, .int .u16 448, .int .u16 384, .int .u16 256], .row (Ty.flat 2 (fun x : Int × Int => [.int .i64 x.1, .int .i64 x.2]) (fun _ => rfl) (fun _ => oneAll rfl)) 32 (some ⟨b98, 0, none⟩) level_Pairs_lit.length c97 level_Pairs_lit]) [0, 1, 2] (by decide) rfl
  refine go_seq ?_
  refine r_in ?_
  refine o_batch 0 [] [.p] [(16, .bool true)] [] trivial trivial (by kernel_rfl) (by kernel_rfl) (by kernel_rfl) ?_
  refine r_out (by kernel_rfl) ?_
  refine go_seq ?_
  refine go_then (by kernel_rfl) ?_
  refine go_skip ?_
  refine go_seq ?_
  refine go_block ?_
  refine go_seq ?_
  refine r_in ?_
  refine o_batch 0 [(b98, 0 + (2 : Int).toNat * 2, [.int .i64 1, .int .i64 3])] [.x, .l 0 0] [(17, .pointer (some ⟨b98, 0 + (2 : Int).toNat * 2, none⟩)), (18, .agg #[.int .i64 1, .int .i64 3])] [(2, level_Pairs_lit.length)] ⟨(rdS.flook (hI.row 2 rfl) (hI.rowlen 2 rfl) (by decide : 0 ≤ (2 : Int) ∧ (2 : Int) < (level_Pairs_lit.length : Int))).ok, trivial⟩ ⟨(by decide : 0 ≤ (2 : Int) ∧ (2 : Int) < (level_Pairs_lit.length : Int)), trivial⟩ (by kernel_rfl) (by kernel_rfl) (by kernel_rfl) ?_
  refine o_eff 2 _ rfl (by kernel_rfl) ?_
  refine e_alloc 32 (.agg #[.int .i64 0, .int .i64 0]) [.int .i64 0, .int .i64 0] rfl (by kernel_rfl) rfl hI ?_
  clear hI
  intro b101 _ hI
  refine o_eff 3 _ rfl (by kernel_rfl) ?_
  refine e_store 32 _ _ 3 b101 32 [.int .i64 0, .int .i64 0] [.int .i64 1, .int .i64 3] 0 (.agg #[.int .i64 1, .int .i64 3]) rfl (by kernel_rfl) (by kernel_rfl) (by kernel_rfl) (by kernel_rfl) hI rfl (by kernel_rfl) (by kernel_rfl) ?_
  clear hI
  intro _ hI
  refine r_out (by kernel_rfl) ?_
  refine go_seq ?_
  refine r_in ?_
  refine o_batch 0 [(b101, 0, [.int .i64 1, .int .i64 3])] [.p, .l 0 0, .p, .p] [(19, .pointer (some ⟨b101, 0, none⟩)), (20, .int .i64 1), (21, .int .i64 1), (22, .bool true)] [] ⟨(hI.grp 3 rfl), trivial⟩ trivial (by kernel_rfl) (by kernel_rfl) (by kernel_rfl) ?_
  refine r_out (by kernel_rfl) ?_
  refine go_then (by kernel_rfl) ?_
  refine d_tail' 9 _ [(b2, 0, [.int .u16 0, .int .u16 454, .int .u16 452, .int .u16 504, .int .u16 496, .int .u16 480, .int .u16 448, .int .u16 384, .int .u16 256]), (b101, 0, [.int .i64 1, .int .i64 3])] [.p, .p, .l 0 1, .p, .l 1 1, .p, .l 0 3, .p, .p] [(23, .int .i64 1), (24, .pointer (some ⟨b2, 1, none⟩)), (25, .int .u16 454), (26, .pointer (some ⟨b101, 1, none⟩)), (27, .int .i64 3), (28, .pointer (some ⟨b2, 3, none⟩)), (29, .int .u16 504), (30, .int .u16 510), (31, .pointer (some ⟨b2, 1, none⟩))] [] (by kernel_rfl) (by kernel_rfl) rfl rfl ⟨(hI.grp 1 rfl), (hI.grp 3 rfl), trivial⟩ trivial (by kernel_rfl) (by kernel_rfl) (by kernel_rfl) (by kernel_rfl) hI ?_
  clear hI
  intro _ hI hsame
  refine e_store 41 _ _ 1 b2 42 [.int .u16 0, .int .u16 454, .int .u16 452, .int .u16 504, .int .u16 496, .int .u16 480, .int .u16 448, .int .u16 384, .int .u16 256] [.int .u16 0, .int .u16 510, .int .u16 452, .int .u16 504, .int .u16 496, .int .u16 480, .int .u16 448, .int .u16 384, .int .u16 256] 1 (.int .u16 510) rfl (by kernel_rfl) (by kernel_rfl) (by kernel_rfl) (by kernel_rfl) hI rfl (by kernel_rfl) (by kernel_rfl) ?_
  clear hI
  intro _ hI
  refine go_inBlock ?_
  refine r_in ?_
  refine o_batch 0 [] [.p, .p] [(32, .int .i64 3), (15, .int .i64 3)] [] trivial trivial (by kernel_rfl) (by kernel_rfl) (by kernel_rfl) ?_
  refine r_out (by kernel_rfl) ?_
  refine go_again ?_
  refine go_gen [(0, .pointer (some ⟨b1, 0, none⟩)), (1, .pointer (some ⟨b2, 0, none⟩)), (2, .int .i64 1), (13, .slice (some ⟨b98, 0, none⟩) level_Pairs_lit.length c97), (14, .int .i64 (level_Pairs_lit.length : Int)), (15, .int .i64 3)] (by kernel_rfl) ?_
  intro _
  replace hI := hI.pick (L' := [.blk b1 42 [.int .u16 0, .int .u16 0, .int .u16 0, .int .u16 0, .int .u16 0, .int .u16 0, .int .u16 0, .int .u16 0, .int .u16 0], .blk b2 42 [.int .u16 0, .int .u16 510, .int .u16 452, .int .u16 504, .int .u16 496, .int .u16 480, .int .u16 448, .int .u16 384, .int .u16 256], .row (Ty.flat 2 (fun x : Int × Int => [.int .i64 x.1, .int .i64 x.2]) (fun _ => rfl) (fun _ => oneAll rfl)) 32 (some ⟨b98, 0, none⟩) level_Pairs_lit.length c97 level_Pairs_lit]) [0, 1, 2] (by decide) rfl
  refine go_seq ?_
  refine r_in ?_
  refine o_batch 0 [] [.p] [(16, .bool true)] [] trivial trivial (by kernel_rfl) (by kernel_rfl) (by kernel_rfl) ?_
  refine r_out (by kernel_rfl) ?_
  refine go_seq ?_
  refine go_then (by kernel_rfl) ?_
  refine go_skip ?_
  refine go_seq ?_
  refine go_block ?_
  refine go_seq ?_
  refine r_in ?_
  refine o_batch 0 [(b98, 0 + (3 : Int).toNat * 2, [.int .i64 3, .int .i64 4])] [.x, .l 0 0] [(17, .pointer (some ⟨b98, 0 + (3 : Int).toNat * 2, none⟩)), (18, .agg #[.int .i64 3, .int .i64 4])] [(3, level_Pairs_lit.length)] ⟨(rdS.flook (hI.row 2 rfl) (hI.rowlen 2 rfl) (by decide : 0 ≤ (3 : Int) ∧ (3 : Int) < (level_Pairs_lit.length : Int))).ok, trivial⟩ ⟨(by decide : 0 ≤ (3 : Int) ∧ (3 : Int) < (level_Pairs_lit.length : Int)), trivial⟩ (by kernel_rfl) (by kernel_rfl) (by kernel_rfl) ?_
  refine o_eff 2 _ rfl (by kernel_rfl) ?_
  refine e_alloc 32 (.agg #[.int .i64 0, .int .i64 0]) [.int .i64 0, .int .i64 0] rfl (by kernel_rfl) rfl hI ?_
  clear hI
  intro b102 _ hI
  refine o_eff 3 _ rfl (by kernel_rfl) ?_
  refine e_store 32 _ _ 3 b102 32 [.int .i64 0, .int .i64 0] [.int .i64 3, .int .i64 4] 0 (.agg #[.int .i64 3, .int .i64 4]) rfl (by kernel_rfl) (by kernel_rfl) (by kernel_rfl) (by kernel_rfl) hI rfl (by kernel_rfl) (by kernel_rfl) ?_
  clear hI
  intro _ hI
  refine r_out (by kernel_rfl) ?_
  refine go_seq ?_
  refine r_in ?_
  refine o_batch 0 [(b102, 0, [.int .i64 3, .int .i64 4])] [.p, .l 0 0, .p, .p] [(19, .pointer (some ⟨b102, 0, none⟩)), (20, .int .i64 3), (21, .int .i64 1), (22, .bool false)] [] ⟨(hI.grp 3 rfl), trivial⟩ trivial (by kernel_rfl) (by kernel_rfl) (by kernel_rfl) ?_
  refine r_out (by kernel_rfl) ?_
  refine go_else (by kernel_rfl) ?_
  refine go_skip ?_
  refine go_inBlock ?_
  refine r_in ?_
  refine o_batch 0 [] [.p, .p] [(32, .int .i64 4), (15, .int .i64 4)] [] trivial trivial (by kernel_rfl) (by kernel_rfl) (by kernel_rfl) ?_
  refine r_out (by kernel_rfl) ?_
  refine go_again ?_
  refine go_gen [(0, .pointer (some ⟨b1, 0, none⟩)), (1, .pointer (some ⟨b2, 0, none⟩)), (2, .int .i64 1), (13, .slice (some ⟨b98, 0, none⟩) level_Pairs_lit.length c97), (14, .int .i64 (level_Pairs_lit.length : Int)), (15, .int .i64 4)] (by kernel_rfl) ?_
  intro _
  replace hI := hI.pick (L' := [.blk b1 42 [.int .u16 0, .int .u16 0, .int .u16 0, .int .u16 0, .int .u16 0, .int .u16 0, .int .u16 0, .int .u16 0, .int .u16 0], .blk b2 42 [.int .u16 0, .int .u16 510, .int .u16 452, .int .u16 504, .int .u16 496, .int .u16 480, .int .u16 448, .int .u16 384, .int .u16 256], .row (Ty.flat 2 (fun x : Int × Int => [.int .i64 x.1, .int .i64 x.2]) (fun _ => rfl) (fun _ => oneAll rfl)) 32 (some ⟨b98, 0, none⟩) level_Pairs_lit.length c97 level_Pairs_lit]) [0, 1, 2] (by decide) rfl
  refine go_seq ?_
  refine r_in ?_
  refine o_batch 0 [] [.p] [(16, .bool true)] [] trivial trivial (by kernel_rfl) (by kernel_rfl) (by kernel_rfl) ?_
  refine r_out (by kernel_rfl) ?_
  refine go_seq ?_
  refine go_then (by kernel_rfl) ?_
  refine go_skip ?_
  refine go_seq ?_
  refine go_block ?_
  refine go_seq ?_
  refine r_in ?_
  refine o_batch 0 [(b98, 0 + (4 : Int).toNat * 2, [.int .i64 4, .int .i64 5])] [.x, .l 0 0] [(17, .pointer (some ⟨b98, 0 + (4 : Int).toNat * 2, none⟩)), (18, .agg #[.int .i64 4, .int .i64 5])] [(4, level_Pairs_lit.length)] ⟨(rdS.flook (hI.row 2 rfl) (hI.rowlen 2 rfl) (by decide : 0 ≤ (4 : Int) ∧ (4 : Int) < (level_Pairs_lit.length : Int))).ok, trivial⟩ ⟨(by decide : 0 ≤ (4 : Int) ∧ (4 : Int) < (level_Pairs_lit.length : Int)), trivial⟩ (by kernel_rfl) (by kernel_rfl) (by kernel_rfl) ?_
  refine o_eff 2 _ rfl (by kernel_rfl) ?_
  refine e_alloc 32 (.agg #[.int .i64 0, .int .i64 0]) [.int .i64 0, .int .i64 0] rfl (by kernel_rfl) rfl hI ?_
  clear hI
  intro b103 _ hI
  refine o_eff 3 _ rfl (by kernel_rfl) ?_
  refine e_store 32 _ _ 3 b103 32 [.int .i64 0, .int .i64 0] [.int .i64 4, .int .i64 5] 0 (.agg #[.int .i64 4, .int .i64 5]) rfl (by kernel_rfl) (by kernel_rfl) (by kernel_rfl) (by kernel_rfl) hI rfl (by kernel_rfl) (by kernel_rfl) ?_
  clear hI
  intro _ hI
  refine r_out (by kernel_rfl) ?_
  refine go_seq ?_
  refine r_in ?_
  refine o_batch 0 [(b103, 0, [.int .i64 4, .int .i64 5])] [.p, .l 0 0, .p, .p] [(19, .pointer (some ⟨b103, 0, none⟩)), (20, .int .i64 4), (21, .int .i64 1), (22, .bool false)] [] ⟨(hI.grp 3 rfl), trivial⟩ trivial (by kernel_rfl) (by kernel_rfl) (by kernel_rfl) ?_
  refine r_out (by kernel_rfl) ?_
  refine go_else (by kernel_rfl) ?_
  refine go_skip ?_
  refine go_inBlock ?_
  refine r_in ?_
  refine o_batch 0 [] [.p, .p] [(32, .int .i64 5), (15, .int .i64 5)] [] trivial trivial (by kernel_rfl) (by kernel_rfl) (by kernel_rfl) ?_
  refine r_out (by kernel_rfl) ?_
  refine go_again ?_
  refine go_gen [(0, .pointer (some ⟨b1, 0, none⟩)), (1, .pointer (some ⟨b2, 0, none⟩)), (2, .int .i64 1), (13, .slice (some ⟨b98, 0, none⟩) level_Pairs_lit.length c97), (14, .int .i64 (level_Pairs_lit.length : Int)), (15, .int .i64 5)] (by kernel_rfl) ?_
  intro _
  replace hI := hI.pick (L' := [.blk b1 42 [.int .u16 0, .int .u16 0, .int .u16 0, .int .u16 0, .int .u16 0, .int .u16 0, .int .u16 0, .int .u16 0, .int .u16 0], .blk b2 42 [.int .u16 0, .int .u16 510, .int .u16 452, .int .u16 504, .int .u16 496, .int .u16 480, .int .u16 448, .int .u16 384, .int .u16 256], .row (Ty.flat 2 (fun x : Int × Int => [.int .i64 x.1, .int .i64 x.2]) (fun _ => rfl) (fun _ => oneAll rfl)) 32 (some ⟨b98, 0, none⟩) level_Pairs_lit.length c97 level_Pairs_lit]) [0, 1, 2] (by decide) rfl
  refine go_seq ?_
  refine r_in ?_
  refine o_batch 0 [] [.p] [(16, .bool true)] [] trivial trivial (by kernel_rfl) (by kernel_rfl) (by kernel_rfl) ?_
  refine r_out (by kernel_rfl) ?_
  refine go_seq ?_
  refine go_then (by kernel_rfl) ?_
  refine go_skip ?_
  refine go_seq ?_
  refine go_block ?_
  refine go_seq ?_
  refine r_in ?_
  refine o_batch 0 [(b98, 0 + (5 : Int).toNat * 2, [.int .i64 5, .int .i64 6])] [.x, .l 0 0] [(17, .pointer (some ⟨b98, 0 + (5 : Int).toNat * 2, none⟩)), (18, .agg #[.int .i64 5, .int .i64 6])] [(5, level_Pairs_lit.length)] ⟨(rdS.flook (hI.row 2 rfl) (hI.rowlen 2 rfl) (by decide : 0 ≤ (5 : Int) ∧ (5 : Int) < (level_Pairs_lit.length : Int))).ok, trivial⟩ ⟨(by decide : 0 ≤ (5 : Int) ∧ (5 : Int) < (level_Pairs_lit.length : Int)), trivial⟩ (by kernel_rfl) (by kernel_rfl) (by kernel_rfl) ?_
  refine o_eff 2 _ rfl (by kernel_rfl) ?_
  refine e_alloc 32 (.agg #[.int .i64 0, .int .i64 0]) [.int .i64 0, .int .i64 0] rfl (by kernel_rfl) rfl hI ?_
  clear hI
  intro b104 _ hI
  refine o_eff 3 _ rfl (by kernel_rfl) ?_
  refine e_store 32 _ _ 3 b104 32 [.int .i64 0, .int .i64 0] [.int .i64 5, .int .i64 6] 0 (.agg #[.int .i64 5, .int .i64 6]) rfl (by kernel_rfl) (by kernel_rfl) (by kernel_rfl) (by kernel_rfl) hI rfl (by kernel_rfl) (by kernel_rfl) ?_
  clear hI
  intro _ hI
  refine r_out (by kernel_rfl) ?_
  refine go_seq ?_
  refine r_in ?_
  refine o_batch 0 [(b104, 0, [.int .i64 5, .int .i64 6])] [.p, .l 0 0, .p, .p] [(19, .pointer (some ⟨b104, 0, none⟩)), (20, .int .i64 5), (21, .int .i64 1), (22, .bool false)] [] ⟨(hI.grp 3 rfl), trivial⟩ trivial (by kernel_rfl) (by kernel_rfl) (by kernel_rfl) ?_
  refine r_out (by kernel_rfl) ?_
  refine go_else (by kernel_rfl) ?_
  refine go_skip ?_
  refine go_inBlock ?_
  refine r_in ?_
  refine o_batch 0 [] [.p, .p] [(32, .int .i64 6), (15, .int .i64 6)] [] trivial trivial (by kernel_rfl) (by kernel_rfl) (by kernel_rfl) ?_
  refine r_out (by kernel_rfl) ?_
  refine go_again ?_
  refine go_gen [(0, .pointer (some ⟨b1, 0, none⟩)), (1, .pointer (some ⟨b2, 0, none⟩)), (2, .int .i64 1), (13, .slice (some ⟨b98, 0, none⟩) level_Pairs_lit.length c97), (14, .int .i64 (level_Pairs_lit.length : Int)), (15, .int .i64 6)] (by kernel_rfl) ?_
  intro _
  replace hI := hI.pick (L' := [.blk b1 42 [.int .u16 0, .int .u16 0, .int .u16 0, .int .u16 0, .int .u16 0, .int .u16 0, .int .u16 0, .int .u16 0, .int .u16 0], .blk b2 42 [.int .u16 0, .int .u16 510, .int .u16 452, .int .u16 504, .int .u16 496, .int .u16 480, .int .u16 448, .int .u16 384, .int .u16 256], .row (Ty.flat 2 (fun x : Int × Int => [.int .i64 x.1, .int .i64 x.2]) (fun _ => rfl) (fun _ => oneAll rfl)) 32 (some ⟨b98, 0, none⟩) level_Pairs_lit.length c97 level_Pairs_lit]) [0, 1, 2] (by decide) rfl
  refine go_seq ?_
  refine r_in ?_
  refine o_batch 0 [] [.p] [(16, .bool true)] [] trivial trivial (by kernel_rfl) (by kernel_rfl) (by kernel_rfl) ?_
  refine r_out (by kernel_rfl) ?_
  refine go_seq ?_
  refine go_then (by kernel_rfl) ?_
  refine go_skip ?_
  refine go_seq ?_
  refine go_block ?_
  refine go_seq ?_
  refine r_in ?_
  refine o_batch 0 [(b98, 0 + (6 : Int).toNat * 2, [.int .i64 6, .int .i64 7])] [.x, .l 0 0] [(17, .pointer (some ⟨b98, 0 + (6 : Int).toNat * 2, none⟩)), (18, .agg #[.int .i64 6, .int .i64 7])] [(6, level_Pairs_lit.length)] ⟨(rdS.flook (hI.row 2 rfl) (hI.rowlen 2 rfl) (by decide : 0 ≤ (6 : Int) ∧ (6 : Int) < (level_Pairs_lit.length : Int))).ok, trivial⟩ ⟨(by decide : 0 ≤ (6 : Int) ∧ (6 : Int) < (level_Pairs_lit.length : Int)), trivial⟩ (by kernel_rfl) (by kernel_rfl) (by kernel_rfl) ?_
  refine o_eff 2 _ rfl (by kernel_rfl) ?_
  refine e_alloc 32 (.agg #[.int .i64 0, .int .i64 0]) [.int .i64 0, .int .i64 0] rfl (by kernel_rfl) rfl hI ?_
  clear hI
  intro b105 _ hI
  refine o_eff 3 _ rfl (by kernel_rfl) ?_
  refine e_store 32 _ _ 3 b105 32 [.int .i64 0, .int .i64 0] [.int .i64 6, .int .i64 7] 0 (.agg #[.int .i64 6, .int .i64 7]) rfl (by kernel_rfl) (by kernel_rfl) (by kernel_rfl) (by kernel_rfl) hI rfl (by kernel_rfl) (by kernel_rfl) ?_
  clear hI
  intro _ hI
  refine r_out (by kernel_rfl) ?_
  refine go_seq ?_
  refine r_in ?_
  refine o_batch 0 [(b105, 0, [.int .i64 6, .int .i64 7])] [.p, .l 0 0, .p, .p] [(19, .pointer (some ⟨b105, 0, none⟩)), (20, .int .i64 6), (21, .int .i64 1), (22, .bool false)] [] ⟨(hI.grp 3 rfl), trivial⟩ trivial (by kernel_rfl) (by kernel_rfl) (by kernel_rfl) ?_
  refine r_out (by kernel_rfl) ?_
  refine go_else (by kernel_rfl) ?_
  refine go_skip ?_
  refine go_inBlock ?_
  refine r_in ?_
  refine o_batch 0 [] [.p, .p] [(32, .int .i64 7), (15, .int .i64 7)] [] trivial trivial (by kernel_rfl) (by kernel_rfl) (by kernel_rfl) ?_
  refine r_out (by kernel_rfl) ?_
  refine go_again ?_
  refine go_gen [(0, .pointer (some ⟨b1, 0, none⟩)), (1, .pointer (some ⟨b2, 0, none⟩)), (2, .int .i64 1), (13, .slice (some ⟨b98, 0, none⟩) level_Pairs_lit.length c97), (14, .int .i64 (level_Pairs_lit.length : Int)), (15, .int .i64 7)] (by kernel_rfl) ?_
  intro _
  replace hI := hI.pick (L' := [.blk b1 42 [.int .u16 0, .int .u16 0, .int .u16 0, .int .u16 0, .int .u16 0, .int .u16 0, .int .u16 0, .int .u16 0, .int .u16 0], .blk b2 42 [.int .u16 0, .int .u16 510, .int .u16 452, .int .u16 504, .int .u16 496, .int .u16 480, .int .u16 448, .int .u16 384, .int .u16 256], .row (Ty.flat 2 (fun x : Int × Int => [.int .i64 x.1, .int .i64 x.2]) (fun _ => rfl) (fun _ => oneAll rfl)) 32 (some ⟨b98, 0, none⟩) level_Pairs_lit.length c97 level_Pairs_lit]) [0, 1, 2] (by decide) rfl
  refine go_seq ?_
  refine r_in ?_
  refine o_batch 0 [] [.p] [(16, .bool true)] [] trivial trivial (by kernel_rfl) (by kernel_rfl) (by kernel_rfl) ?_
  refine r_out (by kernel_rfl) ?_
  refine go_seq ?_
  refine go_then (by kernel_rfl) ?_
  refine go_skip ?_
  refine go_seq ?_
  refine go_block ?_
  refine go_seq ?_
  refine r_in ?_
  refine o_batch 0 [(b98, 0 + (7 : Int).toNat * 2, [.int .i64 7, .int .i64 8])] [.x, .l 0 0] [(17, .pointer (some ⟨b98, 0 + (7 : Int).toNat * 2, none⟩)), (18, .agg #[.int .i64 7, .int .i64 8])] [(7, level_Pairs_lit.length)] ⟨(rdS.flook (hI.row 2 rfl) (hI.rowlen 2 rfl) (by decide : 0 ≤ (7 : Int) ∧ (7 : Int) < (level_Pairs_lit.length : Int))).ok, trivial⟩ ⟨(by decide : 0 ≤ (7 : Int) ∧ (7 : Int) < (level_Pairs_lit.length : Int)), trivial⟩ (by kernel_rfl) (by kernel_rfl) (by kernel_rfl) ?_
  refine o_eff 2 _ rfl (by kernel_rfl) ?_
  refine e_alloc 32 (.agg #[.int .i64 0, .int .i64 0]) [.int .i64 0, .int .i64 0] rfl (by kernel_rfl) rfl hI ?_
  clear hI
  intro b106 _ hI
  refine o_eff 3 _ rfl (by kernel_rfl) ?_
  refine e_store 32 _ _ 3 b106 32 [.int .i64 0, .int .i64 0] [.int .i64 7, .int .i64 8] 0 (.agg #[.int .i64 7, .int .i64 8]) rfl (by kernel_rfl) (by kernel_rfl) (by kernel_rfl) (by kernel_rfl) hI rfl (by kernel_rfl) (by kernel_rfl) ?_
  clear hI
  intro _ hI
  refine r_out (by kernel_rfl) ?_
  refine go_seq ?_
  refine r_in ?_
  refine o_batch 0 [(b106, 0, [.int .i64 7, .int .i64 8])] [.p, .l 0 0, .p, .p] [(19, .pointer (some ⟨b106, 0, none⟩)), (20, .int .i64 7), (21, .int .i64 1), (22, .bool false)] [] ⟨(hI.grp 3 rfl), trivial⟩ trivial (by kernel_rfl) (by kernel_rfl) (by kernel_rfl) ?_
  refine r_out (by kernel_rfl) ?_
  refine go_else (by kernel_rfl) ?_
  refine go_skip ?_
  refine go_inBlock ?_
  refine r_in ?_
  refine o_batch 0 [] [.p, .p] [(32, .int .i64 8), (15, .int .i64 8)] [] trivial trivial (by kernel_rfl) (by kernel_rfl) (by kernel_rfl) ?_
  refine r_out (by kernel_rfl) ?_
  refine go_again ?_
  refine go_gen [(0, .pointer (some ⟨b1, 0, none⟩)), (1, .pointer (some ⟨b2, 0, none⟩)), (2, .int .i64 1), (13, .slice (some ⟨b98, 0, none⟩) level_Pairs_lit.length c97), (14, .int .i64 (level_Pairs_lit.length : Int)), (15, .int .i64 8)] (by kernel_rfl) ?_
  intro _
  replace hI := hI.pick (L' := [.blk b1 42 [.int .u16 0, .int .u16 0, .int .u16 0, .int .u16 0, .int .u16 0, .int .u16 0, .int .u16 0, .int .u16 0, .int .u16 0], .blk b2 42 [.int .u16 0, .int .u16 510, .int .u16 452, .int .u16 504, .int .u16 496, .int .u16 480, .int .u16 448, .int .u16 384, .int .u16 256], .row (Ty.flat 2 (fun x : Int × Int => [.int .i64 x.1, .int .i64 x.2]) (fun _ => rfl) (fun _ => oneAll rfl)) 32 (some ⟨b98, 0, none⟩) level_Pairs_lit.length c97 level_Pairs_lit]) [0, 1, 2] (by decide) rfl
  refine go_seq ?_
  refine r_in ?_
  refine o_batch 0 [] [.p] [(16, .bool false)] [] trivial trivial (by kernel_rfl) (by kernel_rfl) (by kernel_rfl) ?_
  refine r_out (by kernel_rfl) ?_
  refine go_seq ?_
  refine go_else (by kernel_rfl) ?_
  refine go_exit rfl ?_
  refine go_inBlock ?_
  refine r_in ?_
  refine o_batch 0 [] [.p, .p, .p] [(7, .int .i64 1), (8, .int .i64 0), (2, .int .i64 0)] [] trivial trivial (by kernel_rfl) (by kernel_rfl) (by kernel_rfl) ?_
  refine r_out (by kernel_rfl) ?_
  refine go_again ?_
  refine go_gen [(0, .pointer (some ⟨b1, 0, none⟩)), (1, .pointer (some ⟨b2, 0, none⟩)), (2, .int .i64 0)] (by kernel_rfl) ?_
  intro _
  replace hI := hI.pick (L' := [.blk b1 42 [.int .u16 0, .int .u16 0, .int .u16 0, .int .u16 0, .int .u16 0, .int .u16 0, .int .u16 0, .int .u16 0, .int .u16 0], .blk b2 42 [.int .u16 0, .int .u16 510, .int .u16 452, .int .u16 504, .int .u16 496, .int .u16 480, .int .u16 448, .int .u16 384, .int .u16 256]]) [0, 1] (by decide) rfl
  refine go_seq ?_
  refine go_seq ?_
  refine r_in ?_
  refine o_batch 0 [] [.p, .p] [(5, .int .i64 0), (6, .bool false)] [] trivial trivial (by kernel_rfl) (by kernel_rfl) (by kernel_rfl) ?_
  refine r_out (by kernel_rfl) ?_
  refine go_else (by kernel_rfl) ?_
  refine go_exit rfl ?_
  refine go_seq ?_
  refine r_in ?_
  refine o_batch 0 [(b2, 0, [.int .u16 0, .int .u16 510, .int .u16 452, .int .u16 504, .int .u16 496, .int .u16 480, .int .u16 448, .int .u16 384, .int .u16 256])] [.l 0 0] [(33, .agg #[.int .u16 0, .int .u16 510, .int .u16 452, .int .u16 504, .int .u16 496, .int .u16 480, .int .u16 448, .int .u16 384, .int .u16 256])] [] ⟨(hI.grp 1 rfl), trivial⟩ trivial (by kernel_rfl) (by kernel_rfl) (by kernel_rfl) ?_
  refine o_eff 1 _ rfl (by kernel_rfl) ?_
  refine e_store 42 _ _ 0 b1 42 [.int .u16 0, .int .u16 0, .int .u16 0, .int .u16 0, .int .u16 0, .int .u16 0, .int .u16 0, .int .u16 0, .int .u16 0] [.int .u16 0, .int .u16 510, .int .u16 452, .int .u16 504, .int .u16 496, .int .u16 480, .int .u16 448, .int .u16 384, .int .u16 256] 0 (.agg #[.int .u16 0, .int .u16 510, .int .u16 452, .int .u16 504, .int .u16 496, .int .u16 480, .int .u16 448, .int .u16 384, .int .u16 256]) rfl (by kernel_rfl) (by kernel_rfl) (by kernel_rfl) (by kernel_rfl) hI rfl (by kernel_rfl) (by kernel_rfl) ?_
  clear hI
  intro _ hI
  refine r_out (by kernel_rfl) ?_
  replace H := Option.some.inj H
  subst H
  exact go_return_c [(b1, 0, [.int .u16 0, .int .u16 510, .int .u16 452, .int .u16 504, .int .u16 496, .int .u16 480, .int .u16 448, .int .u16 384, .int .u16 256])] [.c 0] [.agg #[.int .u16 0, .int .u16 510, .int .u16 452, .int .u16 504, .int .u16 496, .int .u16 480, .int .u16 448, .int .u16 384, .int .u16 256]] (.agg #[.int .u16 0, .int .u16 510, .int .u16 452, .int .u16 504, .int .u16 496, .int .u16 480, .int .u16 448, .int .u16 384, .int .u16 256]) Try.func24 ⟨(hI.grp 0 rfl), trivial⟩ (by kernel_rfl) (by kernel_rfl) (by kernel_rfl) (by kernel_rfl) ⟨rfl, hI.pick [] (by decide) rfl⟩

end Go.Proofs.YtohaphbogjigcaaT
