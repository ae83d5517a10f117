/- The walks, part 3: each call computes its plain function. -/
import Derived.Test.YtmfihodpbladeaaTW2
import Derived.Test.YtmfihodpbladeaaProg
namespace Go.Proofs.YtmfihodpbladeaaT
open Go Go.Proofs Go.Proofs.YtmfihodpbladeaaE
set_option linter.unusedVariables false
set_option linter.unusedSimpArgs false
set_option maxHeartbeats 0
set_option maxRecDepth 4096
/-! ### assizelaw08.StateOrders -/
theorem enter7 (a : Array Value) : Sem.pureRun Try.prog (callFunc 7 a) = some (.enter 7 a) := by kernel_rfl
theorem assizelaw08zStateOrders_calls (a0 : Int) (A1z : Option Addr) (c1z : Nat) (a1 : List Int) (M : Mem) (w : World) (hI : Inv M w []) (hr1z : rdS (tInt .i64) M.blk A1z a1) (hl1z : a1.length ≤ c1z) (r : Bool) (H : assizelaw08zStateOrders a0 a1 = some r) :
    Calls Try.prog 7 #[.int .i64 a0, .slice A1z a1.length c1z] w fun e w' => e = .returned (.bool r) ∧ Inv M w' [] := by
  refine calls_go (updL (fun _ => undef) [(0, .int .i64 a0), (1, .slice A1z a1.length c1z)]) Try.func7 rfl (by kernel_rfl) ?_
  intro cs
  unfold assizelaw08zStateOrders at H
  refine go_seq ?_
  refine r_in ?_
  refine o_batch 0 [] [.p] [(4, .bool false)] [] trivial trivial (by kernel_rfl) (by kernel_rfl) (by kernel_rfl) ?_
  refine r_out (by kernel_rfl) ?_
  refine go_seq ?_
  refine go_seq ?_
  refine r_in ?_
  replace H := bind_some H
  obtain ⟨y6, hy7, H⟩ := H
  refine o_eff 0 _ rfl (by kernel_rfl) ?_
  refine e_callf _ _ _ 13 #[] #[] #[] #[] rfl (by kernel_rfl) (by kernel_rfl) (by kernel_rfl) (enter13 _) (assizelaw08zalive_calls (memOf _) _ (Inv.start _) _ hy7) ?_
  rintro _ _ ⟨rfl, hI'⟩
  replace hI := hI.call0 hI'
  clear hI'
  refine ⟨_, rfl, ?_⟩
  refine o_batch 1 [] [.p] [(12, .bool (!y6))] [] trivial trivial (by kernel_rfl) (by kernel_rfl) (by kernel_rfl) ?_
  refine r_out (by kernel_rfl) ?_
  replace H := cond_some H
  rcases H with ⟨hc8, H⟩ | ⟨hc8, H⟩
  · refine go_then' (t := !y6) (by kernel_rfl) hc8 ?_
    refine go_seq ?_
    refine r_in ?_
    refine o_batch 0 [] [.p] [(4, .bool false)] [] trivial trivial (by kernel_rfl) (by kernel_rfl) (by kernel_rfl) ?_
    refine r_out (by kernel_rfl) ?_
    replace H := Option.some.inj H
    subst H
    exact go_return (.bool false) Try.func7 (by kernel_rfl) ⟨rfl, hI⟩
  · refine go_else' (t := !y6) (by kernel_rfl) hc8 ?_
    refine go_skip ?_
    refine go_seq ?_
    refine r_in ?_
    refine o_batch 0 [] [.p] [(5, .slice none 0 0)] [] trivial trivial (by kernel_rfl) (by kernel_rfl) (by kernel_rfl) ?_
    refine r_out (by kernel_rfl) ?_
    refine go_seq ?_
    refine go_seq ?_
    refine r_in ?_
    refine o_batch 0 [] [.p, .p, .p, .p] [(13, .slice A1z a1.length c1z), (14, .int .i64 (a1.length : Int)), (15, .int .i64 (w64 ((a1.length : Int) - 1))), (6, .int .i64 (w64 ((a1.length : Int) - 1)))] [] trivial trivial (by kernel_rfl) (by kernel_rfl) (by kernel_rfl) ?_
    refine r_out (by kernel_rfl) ?_
    refine go_block ?_
    refine go_iter (assizelaw08zStateOrders.s1 a0 a1) (fun (l141, x144) f w => ∃ (j : Nat → Value) (A142 : Option Addr) (c143 : Nat), f = updL j [(0, .int .i64 a0), (1, .slice A1z a1.length c1z), (5, .slice A142 l141.length c143), (6, .int .i64 x144)] ∧ Inv M w [.row (tInt .i64) 2 A142 l141.length c143 l141]) H ⟨_, none, 0, at_slots _ (by kernel_rfl), (hI.nilrow (tInt .i64) 2)⟩ ?_
    clear H hI
    rintro ⟨l141, x144⟩ _ _ o1 H ⟨_, A142, c143, rfl, hI⟩ hin1 hout1
    refine go_seq ?_
    refine go_seq ?_
    refine r_in ?_
    refine o_batch 0 [] [.p, .p] [(16, .int .i64 x144), (17, .bool (decide (x144 ≥ 0)))] [] trivial trivial (by kernel_rfl) (by kernel_rfl) (by kernel_rfl) ?_
    refine r_out (by kernel_rfl) ?_
    replace H := cond_some H
    rcases H with ⟨hc146, H⟩ | ⟨hc146, H⟩
    · refine go_then' (t := decide (x144 ≥ 0)) (by kernel_rfl) hc146 ?_
      refine go_skip ?_
      refine go_seq ?_
      refine go_block ?_
      refine r_in ?_
      replace H := must_some H
      obtain ⟨g161, H⟩ := H
      obtain ⟨b162, q163, rfl, _⟩ := rdS.fopen hr1z rfl g161
      refine o_batch 0 [(b162, q163 + x144.toNat * 1, [.int .i64 (idx a1 x144)])] [.p, .p, .p, .x, .l 0 0] [(20, .slice A142 l141.length c143), (21, .slice (some ⟨b162, q163, none⟩) a1.length c1z), (22, .int .i64 x144), (23, .pointer (some ⟨b162, q163 + x144.toNat * 1, none⟩)), (24, .int .i64 (idx a1 x144))] [(x144, a1.length)] ⟨(hI.lies (rdS.flook hr1z rfl g161)), trivial⟩ ⟨g161, trivial⟩ (by kernel_rfl) (by kernel_rfl) (by kernel_rfl) ?_
      refine o_eff 5 _ rfl (by kernel_rfl) ?_
      refine e_parts 22 2 1 _ _ _ #[.int .i64 (idx a1 x144)] [.int .i64 (idx a1 x144)] rfl rfl rfl rfl (by kernel_rfl) (by kernel_rfl) (by kernel_rfl) (by kernel_rfl) hI ?_
      clear hI
      intro b164 _ hI
      replace H := must_some H
      obtain ⟨g165, H⟩ := H
      refine o_eff 6 _ rfl (by kernel_rfl) ?_
      refine e_append (tInt .i64) 22 0 2 _ _ _ _ A142 l141.length c143 l141 ([idx a1 x144] : List Int) b164 0 1 1 [.int .i64 (idx a1 x144)] 0 [] [1] [] [.blk b164 2 [.int .i64 (idx a1 x144)]] rfl (by kernel_rfl) (by kernel_rfl) rfl rfl rfl rfl rfl (by kernel_rfl) hI (by decide) rfl rfl rfl (hI.grp 1 rfl) g165 (mks_cons (mk_flat (k := (tInt .i64)) (idx a1 x144) [.int .i64 (idx a1 x144)] rfl) mks_nil) ?_
      clear hI
      intro A166 c167 _ hI
      replace hI := hI.pick (L' := [.row (tInt .i64) 2 A166 ((l141 ++ ([idx a1 x144] : List Int)).length) c167 (l141 ++ ([idx a1 x144] : List Int))]) [0] (by decide) rfl
      refine o_batch 7 [] [.p] [(5, .slice A166 ((l141 ++ ([idx a1 x144] : List Int)).length) c167)] [] trivial trivial (by kernel_rfl) (by kernel_rfl) (by kernel_rfl) ?_
      refine r_out (by kernel_rfl) ?_
      refine go_inBlock ?_
      refine r_in ?_
      refine o_batch 0 [] [.p, .p, .p] [(18, .int .i64 x144), (19, .int .i64 (w64 (x144 - 1))), (6, .int .i64 (w64 (x144 - 1)))] [] trivial trivial (by kernel_rfl) (by kernel_rfl) (by kernel_rfl) ?_
      refine r_out (by kernel_rfl) ?_
      exact hin1 _ (Option.some.inj H).symm _ _ ⟨_, A166, c167, at_slots _ (by kernel_rfl), hI⟩
    · refine go_else' (t := decide (x144 ≥ 0)) (by kernel_rfl) hc146 ?_
      refine go_exit rfl ?_
      refine go_seq ?_
      refine r_in ?_
      refine o_batch 0 [] [.p, .p] [(28, .int .i64 a0), (29, .slice A1z a1.length c1z)] [] trivial trivial (by kernel_rfl) (by kernel_rfl) (by kernel_rfl) ?_
      replace H := bind_some H
      obtain ⟨y172, hy173, H⟩ := H
      refine o_eff 2 _ rfl (by kernel_rfl) ?_
      refine e_callf _ _ _ 23 #[] #[] #[.int .i64 a0, .slice A1z a1.length c1z] #[.int .i64 a0, .slice A1z a1.length c1z] rfl (by kernel_rfl) (by kernel_rfl) (by kernel_rfl) (enter23 _) (state_Fold_calls a0 A1z c1z a1 (memOf _) _ (Inv.start _) (hI.rd hr1z) hl1z _ hy173) ?_
      rintro _ _ ⟨A174, c175, rfl, hI'⟩
      replace hI := hI.call0 hI'
      clear hI'
      refine ⟨_, rfl, ?_⟩
      refine o_batch 3 [] [.p, .p, .p, .p, .p] [(27, .tuple #[.slice A174 y172.1.length c175, .int .i64 y172.2]), (31, .slice A174 y172.1.length c175), (32, .int .i64 y172.2), (7, .slice A174 y172.1.length c175), (8, .int .i64 y172.2)] [] trivial trivial (by kernel_rfl) (by kernel_rfl) (by kernel_rfl) ?_
      refine r_out (by kernel_rfl) ?_
      refine go_seq ?_
      refine r_in ?_
      refine o_batch 0 [] [.p, .p] [(34, .int .i64 a0), (35, .slice A142 l141.length c143)] [] trivial trivial (by kernel_rfl) (by kernel_rfl) (by kernel_rfl) ?_
      replace H := bind_some H
      obtain ⟨y180, hy181, H⟩ := H
      refine o_eff 2 _ rfl (by kernel_rfl) ?_
      refine e_callf _ _ _ 23 #[] #[] #[.int .i64 a0, .slice A142 l141.length c143] #[.int .i64 a0, .slice A142 l141.length c143] rfl (by kernel_rfl) (by kernel_rfl) (by kernel_rfl) (enter23 _) (state_Fold_calls a0 A142 c143 l141 (memOf _) _ (Inv.start _) (hI.row 0 rfl) (hI.rowle 0 rfl) _ hy181) ?_
      rintro _ _ ⟨A182, c183, rfl, hI'⟩
      replace hI := hI.call0 hI'
      clear hI'
      refine ⟨_, rfl, ?_⟩
      refine o_batch 3 [] [.p, .p, .p, .p, .p] [(33, .tuple #[.slice A182 y180.1.length c183, .int .i64 y180.2]), (37, .slice A182 y180.1.length c183), (38, .int .i64 y180.2), (9, .slice A182 y180.1.length c183), (10, .int .i64 y180.2)] [] trivial trivial (by kernel_rfl) (by kernel_rfl) (by kernel_rfl) ?_
      refine r_out (by kernel_rfl) ?_
      refine go_seq ?_
      refine go_seq ?_
      refine r_in ?_
      refine o_batch 0 [] [.p] [(39, .int .i64 a0)] [] trivial trivial (by kernel_rfl) (by kernel_rfl) (by kernel_rfl) ?_
      refine r_out (by kernel_rfl) ?_
      refine go_block ?_
      refine go_seq ?_
      refine r_in ?_
      refine o_batch 0 [] [.p, .p] [(41, .bool (a0 == 1)), (40, .bool (a0 == 1))] [] trivial trivial (by kernel_rfl) (by kernel_rfl) (by kernel_rfl) ?_
      refine r_out (by kernel_rfl) ?_
      replace H := cond_some H
      rcases H with ⟨hc254, H⟩ | ⟨hc254, H⟩
      · refine go_then' (t := (a0 == 1)) (by kernel_rfl) hc254 ?_
        refine go_seq ?_
        replace H := cond_some H
        rcases H with ⟨hc279, H⟩ | ⟨hc279, H⟩
        · replace H := cond_some H
          rcases H with ⟨hc280, H⟩ | ⟨hc280, H⟩
          · replace H := cond_some H
            rcases H with ⟨hc281, H⟩ | ⟨hc281, H⟩
            · replace H := cond_some H
              rcases H with ⟨hc282, H⟩ | ⟨hc282, H⟩
              · refine d_still [] [.p, .p, .c true, .p, .p, .p, .c true, .p, .p, .p, .c true, .p, .p, .p, .p, .c true, .p, .p, .p, .p, .p, .p, .p, .p, .p, .p, .p, .p, .p, .p, .p, .p, .p, .p, .p, .p, .p, .p, .p, .p, .p, .p, .p] [(42, .int .i64 y172.2), (43, .bool (y172.2 == 0)), (44, .bool true), (45, .int .i64 y180.2), (46, .bool (y180.2 == 0)), (47, .bool (y180.2 == 0)), (48, .bool true), (49, .slice A1z a1.length c1z), (50, .int .i64 (a1.length : Int)), (51, .bool ((a1.length : Int) == 0)), (52, .bool true), (53, .slice A174 y172.1.length c175), (54, .int .i64 (y172.1.length : Int)), (55, .bool ((y172.1.length : Int) == 0)), (56, .bool ((y172.1.length : Int) == 0)), (57, .bool true), (58, undef), (59, undef), (60, undef), (61, undef), (62, undef), (63, undef), (64, undef), (65, undef), (66, undef), (67, undef), (68, undef), (69, undef), (70, undef), (71, undef), (72, undef), (73, undef), (74, undef), (75, undef), (76, undef), (77, undef), (78, undef), (79, undef), (80, undef), (81, undef), (82, .bool true), (83, .bool true), (4, .bool true)] [((bif (y172.2 == 0) == true then 0 else -1), 1), ((bif (y180.2 == 0) == true then 0 else -1), 1), ((bif ((a1.length : Int) == 0) == true then 0 else -1), 1), ((bif ((y172.1.length : Int) == 0) == true then 0 else -1), 1)] (by kernel_rfl) (by kernel_rfl) rfl trivial ⟨(bndEq hc279), (bndEq hc280), (bndEq hc281), (bndEq hc282), trivial⟩ (by kernel_rfl) (by kernel_rfl) (by kernel_rfl) hI ?_
                clear hI
                intro _ hI
                replace H := out_some H
                obtain ⟨_, H, he1⟩ := H
                have he := (hout1 _ he1).symm
                subst he
                replace H := Option.some.inj H
                subst H
                exact go_return (.bool true) Try.func7 (by kernel_rfl) ⟨rfl, hI.pick [] (by decide) rfl⟩
              · replace H := cond_some H
                rcases H with ⟨hc283, H⟩ | ⟨hc283, H⟩
                · replace H := must_some H
                  obtain ⟨g284, H⟩ := H
                  obtain ⟨b285, rfl⟩ := hI.rowAt 1 rfl g284
                  replace H := must_some H
                  obtain ⟨g286, H⟩ := H
                  obtain ⟨b287, q288, rfl, _⟩ := rdS.fopen hr1z rfl g286
                  replace H := cond_some H
                  rcases H with ⟨hc289, H⟩ | ⟨hc289, H⟩
                  · replace H := must_some H
                    obtain ⟨g290, H⟩ := H
                    obtain ⟨b291, rfl⟩ := hI.rowAt 2 rfl g290
                    replace H := must_some H
                    obtain ⟨g292, H⟩ := H
                    refine d_still [(b285, 0 + (0 : Int).toNat * 1, [.int .i64 (idx y172.1 (0 : Int))]), (b287, q288 + (w64 ((a1.length : Int) - 1)).toNat * 1, [.int .i64 (idx a1 (w64 ((a1.length : Int) - 1)))]), (b291, 0 + (0 : Int).toNat * 1, [.int .i64 (idx y180.1 (0 : Int))]), (b287, q288 + (0 : Int).toNat * 1, [.int .i64 (idx a1 (0 : Int))])] [.p, .p, .c true, .p, .p, .p, .c true, .p, .p, .p, .c true, .p, .p, .p, .p, .c false, .p, .p, .p, .c true, .p, .x, .l 0 0, .p, .p, .p, .p, .x, .l 1 0, .p, .p, .c true, .p, .x, .l 2 0, .p, .x, .l 3 0, .p, .p, .p, .p, .p] [(42, .int .i64 y172.2), (43, .bool (y172.2 == 0)), (44, .bool true), (45, .int .i64 y180.2), (46, .bool (y180.2 == 0)), (47, .bool (y180.2 == 0)), (48, .bool true), (49, .slice (some ⟨b287, q288, none⟩) a1.length c1z), (50, .int .i64 (a1.length : Int)), (51, .bool ((a1.length : Int) == 0)), (52, .bool true), (53, .slice (some ⟨b285, 0, none⟩) y172.1.length c175), (54, .int .i64 (y172.1.length : Int)), (55, .bool ((y172.1.length : Int) == 0)), (56, .bool ((y172.1.length : Int) == 0)), (57, .bool false), (58, .slice (some ⟨b285, 0, none⟩) y172.1.length c175), (59, .int .i64 (y172.1.length : Int)), (60, .bool ((y172.1.length : Int) == 1)), (61, .bool true), (62, .slice (some ⟨b285, 0, none⟩) y172.1.length c175), (63, .pointer (some ⟨b285, 0 + (0 : Int).toNat * 1, none⟩)), (64, .int .i64 (idx y172.1 (0 : Int))), (65, .slice (some ⟨b287, q288, none⟩) a1.length c1z), (66, .slice (some ⟨b287, q288, none⟩) a1.length c1z), (67, .int .i64 (a1.length : Int)), (68, .int .i64 (w64 ((a1.length : Int) - 1))), (69, .pointer (some ⟨b287, q288 + (w64 ((a1.length : Int) - 1)).toNat * 1, none⟩)), (70, .int .i64 (idx a1 (w64 ((a1.length : Int) - 1)))), (71, .bool (idx y172.1 (0 : Int) == idx a1 (w64 ((a1.length : Int) - 1)))), (72, .bool (idx y172.1 (0 : Int) == idx a1 (w64 ((a1.length : Int) - 1)))), (73, .bool true), (74, .slice (some ⟨b291, 0, none⟩) y180.1.length c183), (75, .pointer (some ⟨b291, 0 + (0 : Int).toNat * 1, none⟩)), (76, .int .i64 (idx y180.1 (0 : Int))), (77, .slice (some ⟨b287, q288, none⟩) a1.length c1z), (78, .pointer (some ⟨b287, q288 + (0 : Int).toNat * 1, none⟩)), (79, .int .i64 (idx a1 (0 : Int))), (80, .bool (idx y180.1 (0 : Int) == idx a1 (0 : Int))), (81, .bool (idx y180.1 (0 : Int) == idx a1 (0 : Int))), (82, .bool (idx y180.1 (0 : Int) == idx a1 (0 : Int))), (83, .bool (idx y180.1 (0 : Int) == idx a1 (0 : Int))), (4, .bool (idx y180.1 (0 : Int) == idx a1 (0 : Int)))] [((bif (y172.2 == 0) == true then 0 else -1), 1), ((bif (y180.2 == 0) == true then 0 else -1), 1), ((bif ((a1.length : Int) == 0) == true then 0 else -1), 1), ((bif ((y172.1.length : Int) == 0) == false then 0 else -1), 1), ((bif ((y172.1.length : Int) == 1) == true then 0 else -1), 1), (0, y172.1.length), (w64 ((a1.length : Int) - 1), a1.length), ((bif (idx y172.1 (0 : Int) == idx a1 (w64 ((a1.length : Int) - 1))) == true then 0 else -1), 1), (0, y180.1.length), (0, a1.length)] (by kernel_rfl) (by kernel_rfl) rfl ⟨(rdS.flook (hI.row 1 rfl) (hI.rowlen 1 rfl) g284).ok, (hI.lies (rdS.flook hr1z rfl g286)), (rdS.flook (hI.row 2 rfl) (hI.rowlen 2 rfl) g290).ok, (hI.lies (rdS.flook hr1z rfl g292)), trivial⟩ ⟨(bndEq hc279), (bndEq hc280), (bndEq hc281), (bndEq hc282), (bndEq hc283), g284, g286, (bndEq hc289), g290, g292, trivial⟩ (by kernel_rfl) (by kernel_rfl) (by kernel_rfl) hI ?_
                    clear hI
                    intro _ hI
                    replace H := out_some H
                    obtain ⟨_, H, he1⟩ := H
                    have he := (hout1 _ he1).symm
                    subst he
                    replace H := Option.some.inj H
                    subst H
                    exact go_return (.bool (idx y180.1 (0 : Int) == idx a1 (0 : Int))) Try.func7 (by kernel_rfl) ⟨rfl, hI.pick [] (by decide) rfl⟩
                  · refine d_still [(b285, 0 + (0 : Int).toNat * 1, [.int .i64 (idx y172.1 (0 : Int))]), (b287, q288 + (w64 ((a1.length : Int) - 1)).toNat * 1, [.int .i64 (idx a1 (w64 ((a1.length : Int) - 1)))])] [.p, .p, .c true, .p, .p, .p, .c true, .p, .p, .p, .c true, .p, .p, .p, .p, .c false, .p, .p, .p, .c true, .p, .x, .l 0 0, .p, .p, .p, .p, .x, .l 1 0, .p, .p, .c false, .p, .p, .p, .p, .p, .p, .p, .p, .p, .p, .p] [(42, .int .i64 y172.2), (43, .bool (y172.2 == 0)), (44, .bool true), (45, .int .i64 y180.2), (46, .bool (y180.2 == 0)), (47, .bool (y180.2 == 0)), (48, .bool true), (49, .slice (some ⟨b287, q288, none⟩) a1.length c1z), (50, .int .i64 (a1.length : Int)), (51, .bool ((a1.length : Int) == 0)), (52, .bool true), (53, .slice (some ⟨b285, 0, none⟩) y172.1.length c175), (54, .int .i64 (y172.1.length : Int)), (55, .bool ((y172.1.length : Int) == 0)), (56, .bool ((y172.1.length : Int) == 0)), (57, .bool false), (58, .slice (some ⟨b285, 0, none⟩) y172.1.length c175), (59, .int .i64 (y172.1.length : Int)), (60, .bool ((y172.1.length : Int) == 1)), (61, .bool true), (62, .slice (some ⟨b285, 0, none⟩) y172.1.length c175), (63, .pointer (some ⟨b285, 0 + (0 : Int).toNat * 1, none⟩)), (64, .int .i64 (idx y172.1 (0 : Int))), (65, .slice (some ⟨b287, q288, none⟩) a1.length c1z), (66, .slice (some ⟨b287, q288, none⟩) a1.length c1z), (67, .int .i64 (a1.length : Int)), (68, .int .i64 (w64 ((a1.length : Int) - 1))), (69, .pointer (some ⟨b287, q288 + (w64 ((a1.length : Int) - 1)).toNat * 1, none⟩)), (70, .int .i64 (idx a1 (w64 ((a1.length : Int) - 1)))), (71, .bool (idx y172.1 (0 : Int) == idx a1 (w64 ((a1.length : Int) - 1)))), (72, .bool (idx y172.1 (0 : Int) == idx a1 (w64 ((a1.length : Int) - 1)))), (73, .bool false), (74, undef), (75, undef), (76, undef), (77, undef), (78, undef), (79, undef), (80, undef), (81, .bool false), (82, .bool false), (83, .bool false), (4, .bool false)] [((bif (y172.2 == 0) == true then 0 else -1), 1), ((bif (y180.2 == 0) == true then 0 else -1), 1), ((bif ((a1.length : Int) == 0) == true then 0 else -1), 1), ((bif ((y172.1.length : Int) == 0) == false then 0 else -1), 1), ((bif ((y172.1.length : Int) == 1) == true then 0 else -1), 1), (0, y172.1.length), (w64 ((a1.length : Int) - 1), a1.length), ((bif (idx y172.1 (0 : Int) == idx a1 (w64 ((a1.length : Int) - 1))) == false then 0 else -1), 1)] (by kernel_rfl) (by kernel_rfl) rfl ⟨(rdS.flook (hI.row 1 rfl) (hI.rowlen 1 rfl) g284).ok, (hI.lies (rdS.flook hr1z rfl g286)), trivial⟩ ⟨(bndEq hc279), (bndEq hc280), (bndEq hc281), (bndEq hc282), (bndEq hc283), g284, g286, (bndEq hc289), trivial⟩ (by kernel_rfl) (by kernel_rfl) (by kernel_rfl) hI ?_
                    clear hI
                    intro _ hI
                    replace H := out_some H
                    obtain ⟨_, H, he1⟩ := H
                    have he := (hout1 _ he1).symm
                    subst he
                    replace H := Option.some.inj H
                    subst H
                    exact go_return (.bool false) Try.func7 (by kernel_rfl) ⟨rfl, hI.pick [] (by decide) rfl⟩
                · refine d_still [] [.p, .p, .c true, .p, .p, .p, .c true, .p, .p, .p, .c true, .p, .p, .p, .p, .c false, .p, .p, .p, .c false, .p, .p, .p, .p, .p, .p, .p, .p, .p, .p, .p, .p, .p, .p, .p, .p, .p, .p, .p, .p, .p, .p, .p] [(42, .int .i64 y172.2), (43, .bool (y172.2 == 0)), (44, .bool true), (45, .int .i64 y180.2), (46, .bool (y180.2 == 0)), (47, .bool (y180.2 == 0)), (48, .bool true), (49, .slice A1z a1.length c1z), (50, .int .i64 (a1.length : Int)), (51, .bool ((a1.length : Int) == 0)), (52, .bool true), (53, .slice A174 y172.1.length c175), (54, .int .i64 (y172.1.length : Int)), (55, .bool ((y172.1.length : Int) == 0)), (56, .bool ((y172.1.length : Int) == 0)), (57, .bool false), (58, .slice A174 y172.1.length c175), (59, .int .i64 (y172.1.length : Int)), (60, .bool ((y172.1.length : Int) == 1)), (61, .bool false), (62, undef), (63, undef), (64, undef), (65, undef), (66, undef), (67, undef), (68, undef), (69, undef), (70, undef), (71, undef), (72, .bool false), (73, .bool false), (74, undef), (75, undef), (76, undef), (77, undef), (78, undef), (79, undef), (80, undef), (81, .bool false), (82, .bool false), (83, .bool false), (4, .bool false)] [((bif (y172.2 == 0) == true then 0 else -1), 1), ((bif (y180.2 == 0) == true then 0 else -1), 1), ((bif ((a1.length : Int) == 0) == true then 0 else -1), 1), ((bif ((y172.1.length : Int) == 0) == false then 0 else -1), 1), ((bif ((y172.1.length : Int) == 1) == false then 0 else -1), 1)] (by kernel_rfl) (by kernel_rfl) rfl trivial ⟨(bndEq hc279), (bndEq hc280), (bndEq hc281), (bndEq hc282), (bndEq hc283), trivial⟩ (by kernel_rfl) (by kernel_rfl) (by kernel_rfl) hI ?_
                  clear hI
                  intro _ hI
                  replace H := out_some H
                  obtain ⟨_, H, he1⟩ := H
                  have he := (hout1 _ he1).symm
                  subst he
                  replace H := Option.some.inj H
                  subst H
                  exact go_return (.bool false) Try.func7 (by kernel_rfl) ⟨rfl, hI.pick [] (by decide) rfl⟩
            · replace H := cond_some H
              rcases H with ⟨hc293, H⟩ | ⟨hc293, H⟩
              · replace H := must_some H
                obtain ⟨g294, H⟩ := H
                obtain ⟨b295, rfl⟩ := hI.rowAt 1 rfl g294
                replace H := must_some H
                obtain ⟨g296, H⟩ := H
                obtain ⟨b297, q298, rfl, _⟩ := rdS.fopen hr1z rfl g296
                replace H := cond_some H
                rcases H with ⟨hc299, H⟩ | ⟨hc299, H⟩
                · replace H := must_some H
                  obtain ⟨g300, H⟩ := H
                  obtain ⟨b301, rfl⟩ := hI.rowAt 2 rfl g300
                  replace H := must_some H
                  obtain ⟨g302, H⟩ := H
                  refine d_still [(b295, 0 + (0 : Int).toNat * 1, [.int .i64 (idx y172.1 (0 : Int))]), (b297, q298 + (w64 ((a1.length : Int) - 1)).toNat * 1, [.int .i64 (idx a1 (w64 ((a1.length : Int) - 1)))]), (b301, 0 + (0 : Int).toNat * 1, [.int .i64 (idx y180.1 (0 : Int))]), (b297, q298 + (0 : Int).toNat * 1, [.int .i64 (idx a1 (0 : Int))])] [.p, .p, .c true, .p, .p, .p, .c true, .p, .p, .p, .c false, .p, .p, .p, .p, .p, .p, .p, .p, .c true, .p, .x, .l 0 0, .p, .p, .p, .p, .x, .l 1 0, .p, .p, .c true, .p, .x, .l 2 0, .p, .x, .l 3 0, .p, .p, .p, .p, .p] [(42, .int .i64 y172.2), (43, .bool (y172.2 == 0)), (44, .bool true), (45, .int .i64 y180.2), (46, .bool (y180.2 == 0)), (47, .bool (y180.2 == 0)), (48, .bool true), (49, .slice (some ⟨b297, q298, none⟩) a1.length c1z), (50, .int .i64 (a1.length : Int)), (51, .bool ((a1.length : Int) == 0)), (52, .bool false), (53, undef), (54, undef), (55, undef), (56, .bool false), (57, .bool false), (58, .slice (some ⟨b295, 0, none⟩) y172.1.length c175), (59, .int .i64 (y172.1.length : Int)), (60, .bool ((y172.1.length : Int) == 1)), (61, .bool true), (62, .slice (some ⟨b295, 0, none⟩) y172.1.length c175), (63, .pointer (some ⟨b295, 0 + (0 : Int).toNat * 1, none⟩)), (64, .int .i64 (idx y172.1 (0 : Int))), (65, .slice (some ⟨b297, q298, none⟩) a1.length c1z), (66, .slice (some ⟨b297, q298, none⟩) a1.length c1z), (67, .int .i64 (a1.length : Int)), (68, .int .i64 (w64 ((a1.length : Int) - 1))), (69, .pointer (some ⟨b297, q298 + (w64 ((a1.length : Int) - 1)).toNat * 1, none⟩)), (70, .int .i64 (idx a1 (w64 ((a1.length : Int) - 1)))), (71, .bool (idx y172.1 (0 : Int) == idx a1 (w64 ((a1.length : Int) - 1)))), (72, .bool (idx y172.1 (0 : Int) == idx a1 (w64 ((a1.length : Int) - 1)))), (73, .bool true), (74, .slice (some ⟨b301, 0, none⟩) y180.1.length c183), (75, .pointer (some ⟨b301, 0 + (0 : Int).toNat * 1, none⟩)), (76, .int .i64 (idx y180.1 (0 : Int))), (77, .slice (some ⟨b297, q298, none⟩) a1.length c1z), (78, .pointer (some ⟨b297, q298 + (0 : Int).toNat * 1, none⟩)), (79, .int .i64 (idx a1 (0 : Int))), (80, .bool (idx y180.1 (0 : Int) == idx a1 (0 : Int))), (81, .bool (idx y180.1 (0 : Int) == idx a1 (0 : Int))), (82, .bool (idx y180.1 (0 : Int) == idx a1 (0 : Int))), (83, .bool (idx y180.1 (0 : Int) == idx a1 (0 : Int))), (4, .bool (idx y180.1 (0 : Int) == idx a1 (0 : Int)))] [((bif (y172.2 == 0) == true then 0 else -1), 1), ((bif (y180.2 == 0) == true then 0 else -1), 1), ((bif ((a1.length : Int) == 0) == false then 0 else -1), 1), ((bif ((y172.1.length : Int) == 1) == true then 0 else -1), 1), (0, y172.1.length), (w64 ((a1.length : Int) - 1), a1.length), ((bif (idx y172.1 (0 : Int) == idx a1 (w64 ((a1.length : Int) - 1))) == true then 0 else -1), 1), (0, y180.1.length), (0, a1.length)] (by kernel_rfl) (by kernel_rfl) rfl ⟨(rdS.flook (hI.row 1 rfl) (hI.rowlen 1 rfl) g294).ok, (hI.lies (rdS.flook hr1z rfl g296)), (rdS.flook (hI.row 2 rfl) (hI.rowlen 2 rfl) g300).ok, (hI.lies (rdS.flook hr1z rfl g302)), trivial⟩ ⟨(bndEq hc279), (bndEq hc280), (bndEq hc281), (bndEq hc293), g294, g296, (bndEq hc299), g300, g302, trivial⟩ (by kernel_rfl) (by kernel_rfl) (by kernel_rfl) hI ?_
                  clear hI
                  intro _ hI
                  replace H := out_some H
                  obtain ⟨_, H, he1⟩ := H
                  have he := (hout1 _ he1).symm
                  subst he
                  replace H := Option.some.inj H
                  subst H
                  exact go_return (.bool (idx y180.1 (0 : Int) == idx a1 (0 : Int))) Try.func7 (by kernel_rfl) ⟨rfl, hI.pick [] (by decide) rfl⟩
                · refine d_still [(b295, 0 + (0 : Int).toNat * 1, [.int .i64 (idx y172.1 (0 : Int))]), (b297, q298 + (w64 ((a1.length : Int) - 1)).toNat * 1, [.int .i64 (idx a1 (w64 ((a1.length : Int) - 1)))])] [.p, .p, .c true, .p, .p, .p, .c true, .p, .p, .p, .c false, .p, .p, .p, .p, .p, .p, .p, .p, .c true, .p, .x, .l 0 0, .p, .p, .p, .p, .x, .l 1 0, .p, .p, .c false, .p, .p, .p, .p, .p, .p, .p, .p, .p, .p, .p] [(42, .int .i64 y172.2), (43, .bool (y172.2 == 0)), (44, .bool true), (45, .int .i64 y180.2), (46, .bool (y180.2 == 0)), (47, .bool (y180.2 == 0)), (48, .bool true), (49, .slice (some ⟨b297, q298, none⟩) a1.length c1z), (50, .int .i64 (a1.length : Int)), (51, .bool ((a1.length : Int) == 0)), (52, .bool false), (53, undef), (54, undef), (55, undef), (56, .bool false), (57, .bool false), (58, .slice (some ⟨b295, 0, none⟩) y172.1.length c175), (59, .int .i64 (y172.1.length : Int)), (60, .bool ((y172.1.length : Int) == 1)), (61, .bool true), (62, .slice (some ⟨b295, 0, none⟩) y172.1.length c175), (63, .pointer (some ⟨b295, 0 + (0 : Int).toNat * 1, none⟩)), (64, .int .i64 (idx y172.1 (0 : Int))), (65, .slice (some ⟨b297, q298, none⟩) a1.length c1z), (66, .slice (some ⟨b297, q298, none⟩) a1.length c1z), (67, .int .i64 (a1.length : Int)), (68, .int .i64 (w64 ((a1.length : Int) - 1))), (69, .pointer (some ⟨b297, q298 + (w64 ((a1.length : Int) - 1)).toNat * 1, none⟩)), (70, .int .i64 (idx a1 (w64 ((a1.length : Int) - 1)))), (71, .bool (idx y172.1 (0 : Int) == idx a1 (w64 ((a1.length : Int) - 1)))), (72, .bool (idx y172.1 (0 : Int) == idx a1 (w64 ((a1.length : Int) - 1)))), (73, .bool false), (74, undef), (75, undef), (76, undef), (77, undef), (78, undef), (79, undef), (80, undef), (81, .bool false), (82, .bool false), (83, .bool false), (4, .bool false)] [((bif (y172.2 == 0) == true then 0 else -1), 1), ((bif (y180.2 == 0) == true then 0 else -1), 1), ((bif ((a1.length : Int) == 0) == false then 0 else -1), 1), ((bif ((y172.1.length : Int) == 1) == true then 0 else -1), 1), (0, y172.1.length), (w64 ((a1.length : Int) - 1), a1.length), ((bif (idx y172.1 (0 : Int) == idx a1 (w64 ((a1.length : Int) - 1))) == false then 0 else -1), 1)] (by kernel_rfl) (by kernel_rfl) rfl ⟨(rdS.flook (hI.row 1 rfl) (hI.rowlen 1 rfl) g294).ok, (hI.lies (rdS.flook hr1z rfl g296)), trivial⟩ ⟨(bndEq hc279), (bndEq hc280), (bndEq hc281), (bndEq hc293), g294, g296, (bndEq hc299), trivial⟩ (by kernel_rfl) (by kernel_rfl) (by kernel_rfl) hI ?_
                  clear hI
                  intro _ hI
                  replace H := out_some H
                  obtain ⟨_, H, he1⟩ := H
                  have he := (hout1 _ he1).symm
                  subst he
                  replace H := Option.some.inj H
                  subst H
                  exact go_return (.bool false) Try.func7 (by kernel_rfl) ⟨rfl, hI.pick [] (by decide) rfl⟩
              · refine d_still [] [.p, .p, .c true, .p, .p, .p, .c true, .p, .p, .p, .c false, .p, .p, .p, .p, .p, .p, .p, .p, .c false, .p, .p, .p, .p, .p, .p, .p, .p, .p, .p, .p, .p, .p, .p, .p, .p, .p, .p, .p, .p, .p, .p, .p] [(42, .int .i64 y172.2), (43, .bool (y172.2 == 0)), (44, .bool true), (45, .int .i64 y180.2), (46, .bool (y180.2 == 0)), (47, .bool (y180.2 == 0)), (48, .bool true), (49, .slice A1z a1.length c1z), (50, .int .i64 (a1.length : Int)), (51, .bool ((a1.length : Int) == 0)), (52, .bool false), (53, undef), (54, undef), (55, undef), (56, .bool false), (57, .bool false), (58, .slice A174 y172.1.length c175), (59, .int .i64 (y172.1.length : Int)), (60, .bool ((y172.1.length : Int) == 1)), (61, .bool false), (62, undef), (63, undef), (64, undef), (65, undef), (66, undef), (67, undef), (68, undef), (69, undef), (70, undef), (71, undef), (72, .bool false), (73, .bool false), (74, undef), (75, undef), (76, undef), (77, undef), (78, undef), (79, undef), (80, undef), (81, .bool false), (82, .bool false), (83, .bool false), (4, .bool false)] [((bif (y172.2 == 0) == true then 0 else -1), 1), ((bif (y180.2 == 0) == true then 0 else -1), 1), ((bif ((a1.length : Int) == 0) == false then 0 else -1), 1), ((bif ((y172.1.length : Int) == 1) == false then 0 else -1), 1)] (by kernel_rfl) (by kernel_rfl) rfl trivial ⟨(bndEq hc279), (bndEq hc280), (bndEq hc281), (bndEq hc293), trivial⟩ (by kernel_rfl) (by kernel_rfl) (by kernel_rfl) hI ?_
                clear hI
                intro _ hI
                replace H := out_some H
                obtain ⟨_, H, he1⟩ := H
                have he := (hout1 _ he1).symm
                subst he
                replace H := Option.some.inj H
                subst H
                exact go_return (.bool false) Try.func7 (by kernel_rfl) ⟨rfl, hI.pick [] (by decide) rfl⟩
          · refine d_still [] [.p, .p, .c true, .p, .p, .p, .c false, .p, .p, .p, .p, .p, .p, .p, .p, .p, .p, .p, .p, .p, .p, .p, .p, .p, .p, .p, .p, .p, .p, .p, .p, .p, .p, .p, .p, .p, .p, .p, .p, .p, .p, .p, .p] [(42, .int .i64 y172.2), (43, .bool (y172.2 == 0)), (44, .bool true), (45, .int .i64 y180.2), (46, .bool (y180.2 == 0)), (47, .bool (y180.2 == 0)), (48, .bool false), (49, undef), (50, undef), (51, undef), (52, undef), (53, undef), (54, undef), (55, undef), (56, undef), (57, undef), (58, undef), (59, undef), (60, undef), (61, undef), (62, undef), (63, undef), (64, undef), (65, undef), (66, undef), (67, undef), (68, undef), (69, undef), (70, undef), (71, undef), (72, undef), (73, undef), (74, undef), (75, undef), (76, undef), (77, undef), (78, undef), (79, undef), (80, undef), (81, undef), (82, undef), (83, .bool false), (4, .bool false)] [((bif (y172.2 == 0) == true then 0 else -1), 1), ((bif (y180.2 == 0) == false then 0 else -1), 1)] (by kernel_rfl) (by kernel_rfl) rfl trivial ⟨(bndEq hc279), (bndEq hc280), trivial⟩ (by kernel_rfl) (by kernel_rfl) (by kernel_rfl) hI ?_
            clear hI
            intro _ hI
            replace H := out_some H
            obtain ⟨_, H, he1⟩ := H
            have he := (hout1 _ he1).symm
            subst he
            replace H := Option.some.inj H
            subst H
            exact go_return (.bool false) Try.func7 (by kernel_rfl) ⟨rfl, hI.pick [] (by decide) rfl⟩
        · refine d_still [] [.p, .p, .c false, .p, .p, .p, .p, .p, .p, .p, .p, .p, .p, .p, .p, .p, .p, .p, .p, .p, .p, .p, .p, .p, .p, .p, .p, .p, .p, .p, .p, .p, .p, .p, .p, .p, .p, .p, .p, .p, .p, .p, .p] [(42, .int .i64 y172.2), (43, .bool (y172.2 == 0)), (44, .bool false), (45, undef), (46, undef), (47, .bool false), (48, .bool false), (49, undef), (50, undef), (51, undef), (52, undef), (53, undef), (54, undef), (55, undef), (56, undef), (57, undef), (58, undef), (59, undef), (60, undef), (61, undef), (62, undef), (63, undef), (64, undef), (65, undef), (66, undef), (67, undef), (68, undef), (69, undef), (70, undef), (71, undef), (72, undef), (73, undef), (74, undef), (75, undef), (76, undef), (77, undef), (78, undef), (79, undef), (80, undef), (81, undef), (82, undef), (83, .bool false), (4, .bool false)] [((bif (y172.2 == 0) == false then 0 else -1), 1)] (by kernel_rfl) (by kernel_rfl) rfl trivial ⟨(bndEq hc279), trivial⟩ (by kernel_rfl) (by kernel_rfl) (by kernel_rfl) hI ?_
          clear hI
          intro _ hI
          replace H := out_some H
          obtain ⟨_, H, he1⟩ := H
          have he := (hout1 _ he1).symm
          subst he
          replace H := Option.some.inj H
          subst H
          exact go_return (.bool false) Try.func7 (by kernel_rfl) ⟨rfl, hI.pick [] (by decide) rfl⟩
      · refine go_else' (t := (a0 == 1)) (by kernel_rfl) hc254 ?_
        refine go_seq ?_
        refine r_in ?_
        refine o_batch 0 [] [.p, .p] [(85, .bool (a0 == 2)), (84, .bool (a0 == 2))] [] trivial trivial (by kernel_rfl) (by kernel_rfl) (by kernel_rfl) ?_
        refine r_out (by kernel_rfl) ?_
        replace H := cond_some H
        rcases H with ⟨hc303, H⟩ | ⟨hc303, H⟩
        · refine go_then' (t := (a0 == 2)) (by kernel_rfl) hc303 ?_
          refine go_seq ?_
          refine r_in ?_
          replace H := cond_some H
          rcases H with ⟨hc311, H⟩ | ⟨hc311, H⟩
          · replace H := cond_some H
            rcases H with ⟨hc312, H⟩ | ⟨hc312, H⟩
            · refine o_batch 0 [] [.p, .p, .p, .c true, .p, .p, .c true, .p, .p, .p, .p, .p, .p, .p, .p, .p, .p, .p] [(86, .int .i64 y172.2), (87, .int .i64 y180.2), (88, .bool (y172.2 == y180.2)), (89, .bool true), (90, .int .i64 y172.2), (91, .bool (y172.2 != 0)), (92, .bool true), (93, undef), (94, undef), (95, undef), (96, undef), (97, undef), (98, undef), (99, undef), (100, undef), (101, .bool true), (102, .bool true), (4, .bool true)] [((bif (y172.2 == y180.2) == true then 0 else -1), 1), ((bif (y172.2 != 0) == true then 0 else -1), 1)] trivial ⟨(bndEq hc311), (bndEq hc312), trivial⟩ (by kernel_rfl) (by kernel_rfl) (by kernel_rfl) ?_
              refine r_out (by kernel_rfl) ?_
              replace H := out_some H
              obtain ⟨_, H, he1⟩ := H
              have he := (hout1 _ he1).symm
              subst he
              replace H := Option.some.inj H
              subst H
              exact go_return (.bool true) Try.func7 (by kernel_rfl) ⟨rfl, hI.pick [] (by decide) rfl⟩
            · refine o_batch 0 [] [.p, .p, .p, .c true, .p, .p, .c false, .p, .p] [(86, .int .i64 y172.2), (87, .int .i64 y180.2), (88, .bool (y172.2 == y180.2)), (89, .bool true), (90, .int .i64 y172.2), (91, .bool (y172.2 != 0)), (92, .bool false), (93, .slice A174 y172.1.length c175), (94, .slice A1z a1.length c1z)] [((bif (y172.2 == y180.2) == true then 0 else -1), 1), ((bif (y172.2 != 0) == false then 0 else -1), 1)] trivial ⟨(bndEq hc311), (bndEq hc312), trivial⟩ (by kernel_rfl) (by kernel_rfl) (by kernel_rfl) ?_
              replace H := bind_some H
              obtain ⟨y313, hy314, H⟩ := H
              refine o_eff 9 _ rfl (by kernel_rfl) ?_
              refine e_callf _ _ _ 18 #[] #[] #[.slice A174 y172.1.length c175, .slice A1z a1.length c1z] #[.slice A174 y172.1.length c175, .slice A1z a1.length c1z] rfl (by kernel_rfl) (by kernel_rfl) (by kernel_rfl) (enter18 _) (assizeref03zSameVals_calls A174 c175 y172.1 A1z c1z a1 (memOf _) _ (Inv.start _) (hI.row 1 rfl) (hI.rowle 1 rfl) (hI.rd hr1z) hl1z _ hy314) ?_
              rintro _ _ ⟨rfl, hI'⟩
              replace hI := hI.call0 hI'
              clear hI'
              refine ⟨_, rfl, ?_⟩
              replace H := cond_some H
              rcases H with ⟨hc315, H⟩ | ⟨hc315, H⟩
              · refine o_batch 10 [] [.c true, .p, .p] [(96, .bool true), (97, .slice A182 y180.1.length c183), (98, .slice A142 l141.length c143)] [((bif y313 == true then 0 else -1), 1)] trivial ⟨(bndEq hc315), trivial⟩ (by kernel_rfl) (by kernel_rfl) (by kernel_rfl) ?_
                replace H := bind_some H
                obtain ⟨y316, hy317, H⟩ := H
                refine o_eff 13 _ rfl (by kernel_rfl) ?_
                refine e_callf _ _ _ 18 #[] #[] #[.slice A182 y180.1.length c183, .slice A142 l141.length c143] #[.slice A182 y180.1.length c183, .slice A142 l141.length c143] rfl (by kernel_rfl) (by kernel_rfl) (by kernel_rfl) (enter18 _) (assizeref03zSameVals_calls A182 c183 y180.1 A142 c143 l141 (memOf _) _ (Inv.start _) (hI.row 2 rfl) (hI.rowle 2 rfl) (hI.row 0 rfl) (hI.rowle 0 rfl) _ hy317) ?_
                rintro _ _ ⟨rfl, hI'⟩
                replace hI := hI.call0 hI'
                clear hI'
                refine ⟨_, rfl, ?_⟩
                refine o_batch 14 [] [.p, .p, .p, .p] [(100, .bool y316), (101, .bool y316), (102, .bool y316), (4, .bool y316)] [] trivial trivial (by kernel_rfl) (by kernel_rfl) (by kernel_rfl) ?_
                refine r_out (by kernel_rfl) ?_
                replace H := out_some H
                obtain ⟨_, H, he1⟩ := H
                have he := (hout1 _ he1).symm
                subst he
                replace H := Option.some.inj H
                subst H
                exact go_return (.bool y316) Try.func7 (by kernel_rfl) ⟨rfl, hI.pick [] (by decide) rfl⟩
              · refine o_batch 10 [] [.c false, .p, .p, .p, .p, .p, .p, .p] [(96, .bool false), (97, undef), (98, undef), (99, undef), (100, .bool false), (101, .bool false), (102, .bool false), (4, .bool false)] [((bif y313 == false then 0 else -1), 1)] trivial ⟨(bndEq hc315), trivial⟩ (by kernel_rfl) (by kernel_rfl) (by kernel_rfl) ?_
                refine r_out (by kernel_rfl) ?_
                replace H := out_some H
                obtain ⟨_, H, he1⟩ := H
                have he := (hout1 _ he1).symm
                subst he
                replace H := Option.some.inj H
                subst H
                exact go_return (.bool false) Try.func7 (by kernel_rfl) ⟨rfl, hI.pick [] (by decide) rfl⟩
          · refine o_batch 0 [] [.p, .p, .p, .c false, .p, .p, .p, .p, .p, .p, .p, .p, .p, .p, .p, .p, .p, .p] [(86, .int .i64 y172.2), (87, .int .i64 y180.2), (88, .bool (y172.2 == y180.2)), (89, .bool false), (90, undef), (91, undef), (92, undef), (93, undef), (94, undef), (95, undef), (96, undef), (97, undef), (98, undef), (99, undef), (100, undef), (101, undef), (102, .bool false), (4, .bool false)] [((bif (y172.2 == y180.2) == false then 0 else -1), 1)] trivial ⟨(bndEq hc311), trivial⟩ (by kernel_rfl) (by kernel_rfl) (by kernel_rfl) ?_
            refine r_out (by kernel_rfl) ?_
            replace H := out_some H
            obtain ⟨_, H, he1⟩ := H
            have he := (hout1 _ he1).symm
            subst he
            replace H := Option.some.inj H
            subst H
            exact go_return (.bool false) Try.func7 (by kernel_rfl) ⟨rfl, hI.pick [] (by decide) rfl⟩
        · refine go_else' (t := (a0 == 2)) (by kernel_rfl) hc303 ?_
          refine go_skip ?_
          refine go_inBlock ?_
          refine go_seq ?_
          refine r_in ?_
          replace H := cond_some H
          rcases H with ⟨hc321, H⟩ | ⟨hc321, H⟩
          · refine o_batch 0 [] [.p, .p, .p, .p, .p, .c true, .p, .p] [(103, .int .i64 y172.2), (104, .bool (y172.2 == 0)), (105, .int .i64 y180.2), (106, .bool (y180.2 == 0)), (107, .bool ((y172.2 == 0) == (y180.2 == 0))), (108, .bool true), (109, .slice A174 y172.1.length c175), (110, .slice A182 y180.1.length c183)] [((bif ((y172.2 == 0) == (y180.2 == 0)) == true then 0 else -1), 1)] trivial ⟨(bndEq hc321), trivial⟩ (by kernel_rfl) (by kernel_rfl) (by kernel_rfl) ?_
            replace H := bind_some H
            obtain ⟨y322, hy323, H⟩ := H
            refine o_eff 8 _ rfl (by kernel_rfl) ?_
            refine e_callf _ _ _ 18 #[] #[] #[.slice A174 y172.1.length c175, .slice A182 y180.1.length c183] #[.slice A174 y172.1.length c175, .slice A182 y180.1.length c183] rfl (by kernel_rfl) (by kernel_rfl) (by kernel_rfl) (enter18 _) (assizeref03zSameVals_calls A174 c175 y172.1 A182 c183 y180.1 (memOf _) _ (Inv.start _) (hI.row 1 rfl) (hI.rowle 1 rfl) (hI.row 2 rfl) (hI.rowle 2 rfl) _ hy323) ?_
            rintro _ _ ⟨rfl, hI'⟩
            replace hI := hI.call0 hI'
            clear hI'
            refine ⟨_, rfl, ?_⟩
            refine o_batch 9 [] [.p, .p] [(112, .bool y322), (4, .bool y322)] [] trivial trivial (by kernel_rfl) (by kernel_rfl) (by kernel_rfl) ?_
            refine r_out (by kernel_rfl) ?_
            replace H := out_some H
            obtain ⟨_, H, he1⟩ := H
            have he := (hout1 _ he1).symm
            subst he
            replace H := Option.some.inj H
            subst H
            exact go_return (.bool y322) Try.func7 (by kernel_rfl) ⟨rfl, hI.pick [] (by decide) rfl⟩
          · refine o_batch 0 [] [.p, .p, .p, .p, .p, .c false, .p, .p, .p, .p, .p] [(103, .int .i64 y172.2), (104, .bool (y172.2 == 0)), (105, .int .i64 y180.2), (106, .bool (y180.2 == 0)), (107, .bool ((y172.2 == 0) == (y180.2 == 0))), (108, .bool false), (109, undef), (110, undef), (111, undef), (112, .bool false), (4, .bool false)] [((bif ((y172.2 == 0) == (y180.2 == 0)) == false then 0 else -1), 1)] trivial ⟨(bndEq hc321), trivial⟩ (by kernel_rfl) (by kernel_rfl) (by kernel_rfl) ?_
            refine r_out (by kernel_rfl) ?_
            replace H := out_some H
            obtain ⟨_, H, he1⟩ := H
            have he := (hout1 _ he1).symm
            subst he
            replace H := Option.some.inj H
            subst H
            exact go_return (.bool false) Try.func7 (by kernel_rfl) ⟨rfl, hI.pick [] (by decide) rfl⟩

end Go.Proofs.YtmfihodpbladeaaT
