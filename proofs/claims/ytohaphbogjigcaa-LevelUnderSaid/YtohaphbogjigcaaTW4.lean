/- The walks, part 4: each call computes its plain function. -/
import Derived.Test.YtohaphbogjigcaaTW3
import Derived.Test.YtohaphbogjigcaaProg
namespace Go.Proofs.YtohaphbogjigcaaT
open Go Go.Proofs Go.Proofs.YtohaphbogjigcaaE
set_option linter.unusedVariables false
set_option linter.unusedSimpArgs false
set_option maxHeartbeats 0
set_option maxRecDepth 4096
/-! ### assizelaw13.LevelUnder -/
theorem enter6 (a : Array Value) : Sem.pureRun Try.prog (callFunc 6 a) = some (.enter 6 a) := by kernel_rfl
theorem assizelaw13zLevelUnder_calls (A0z : Option Addr) (c0z : Nat) (a0 : List Bool) (M : Mem) (w : World) (hI : Inv M w []) (hr0z : rdS tBool M.blk A0z a0) (hl0z : a0.length ≤ c0z) (r : Bool) (H : assizelaw13zLevelUnder a0 = some r) :
    Calls Try.prog 6 #[.slice A0z a0.length c0z] w fun e w' => e = .returned (.bool r) ∧ Inv M w' [] := by
  refine calls_go (updL (fun _ => undef) [(0, .slice A0z a0.length c0z)]) Try.func6 rfl (by kernel_rfl) ?_
  intro cs
  unfold assizelaw13zLevelUnder at H
  refine go_seq ?_
  refine r_in ?_
  refine o_batch 0 [] [.p] [(2, .bool false)] [] trivial trivial (by kernel_rfl) (by kernel_rfl) (by kernel_rfl) ?_
  refine r_out (by kernel_rfl) ?_
  refine go_seq ?_
  refine go_seq ?_
  refine r_in ?_
  replace H := bind_some H
  obtain ⟨y6, hy7, H⟩ := H
  refine o_eff 0 _ rfl (by kernel_rfl) ?_
  refine e_callf _ _ _ 7 #[] #[] #[] #[] rfl (by kernel_rfl) (by kernel_rfl) (by kernel_rfl) (enter7 _) (assizelaw13zalive_calls (memOf _) _ (Inv.start _) _ hy7) ?_
  rintro _ _ ⟨rfl, hI'⟩
  replace hI := hI.call0 hI'
  clear hI'
  refine ⟨_, rfl, ?_⟩
  refine o_batch 1 [] [.p] [(8, .bool (!y6))] [] trivial trivial (by kernel_rfl) (by kernel_rfl) (by kernel_rfl) ?_
  refine r_out (by kernel_rfl) ?_
  replace H := cond_some H
  rcases H with ⟨hc8, H⟩ | ⟨hc8, H⟩
  · refine go_then' (t := !y6) (by kernel_rfl) hc8 ?_
    refine go_seq ?_
    refine r_in ?_
    refine o_batch 0 [] [.p] [(2, .bool false)] [] trivial trivial (by kernel_rfl) (by kernel_rfl) (by kernel_rfl) ?_
    refine r_out (by kernel_rfl) ?_
    replace H := Option.some.inj H
    subst H
    exact go_return (.bool false) Try.func6 (by kernel_rfl) ⟨rfl, hI⟩
  · refine go_else' (t := !y6) (by kernel_rfl) hc8 ?_
    refine go_skip ?_
    refine go_seq ?_
    refine r_in ?_
    refine o_batch 0 [] [.p] [(9, .slice A0z a0.length c0z)] [] trivial trivial (by kernel_rfl) (by kernel_rfl) (by kernel_rfl) ?_
    replace H := bind_some H
    obtain ⟨y13, hy14, H⟩ := H
    refine o_eff 1 _ rfl (by kernel_rfl) ?_
    refine e_callf _ _ _ 16 #[] #[] #[.slice A0z a0.length c0z] #[.slice A0z a0.length c0z] rfl (by kernel_rfl) (by kernel_rfl) (by kernel_rfl) (enter16 _) (level_Under_calls A0z c0z a0 (memOf _) _ (Inv.start _) (hI.rd hr0z) hl0z _ hy14) ?_
    rintro _ _ ⟨A15, c16, rfl, hI'⟩
    replace hI := hI.call0 hI'
    clear hI'
    refine ⟨_, rfl, ?_⟩
    refine o_batch 2 [] [.p] [(3, .slice A15 y13.length c16)] [] trivial trivial (by kernel_rfl) (by kernel_rfl) (by kernel_rfl) ?_
    refine r_out (by kernel_rfl) ?_
    refine go_seq ?_
    refine go_seq ?_
    refine r_in ?_
    refine o_batch 0 [] [.p, .p, .p] [(11, .slice A0z a0.length c0z), (12, .int .i64 (a0.length : Int)), (13, .bool ((a0.length : Int) != 9))] [] trivial trivial (by kernel_rfl) (by kernel_rfl) (by kernel_rfl) ?_
    refine r_out (by kernel_rfl) ?_
    replace H := cond_some H
    rcases H with ⟨hc22, H⟩ | ⟨hc22, H⟩
    · refine go_then' (t := ((a0.length : Int) != 9)) (by kernel_rfl) hc22 ?_
      refine go_seq ?_
      refine r_in ?_
      replace H := cond_some H
      rcases H with ⟨hc26, H⟩ | ⟨hc26, H⟩
      · refine o_batch 0 [] [.p, .p, .p, .c true, .p] [(14, .slice A15 y13.length c16), (15, .int .i64 (y13.length : Int)), (16, .bool ((y13.length : Int) == 0)), (17, .bool true), (18, .slice A0z a0.length c0z)] [((bif ((y13.length : Int) == 0) == true then 0 else -1), 1)] trivial ⟨(bndEq hc26), trivial⟩ (by kernel_rfl) (by kernel_rfl) (by kernel_rfl) ?_
        replace H := bind_some H
        obtain ⟨y27, hy28, H⟩ := H
        refine o_eff 5 _ rfl (by kernel_rfl) ?_
        refine e_callf _ _ _ 19 #[] #[] #[.slice A0z a0.length c0z] #[.slice A0z a0.length c0z] rfl (by kernel_rfl) (by kernel_rfl) (by kernel_rfl) (enter19 _) (level_Closed_calls A0z c0z a0 (memOf _) _ (Inv.start _) (hI.rd hr0z) hl0z _ hy28) ?_
        rintro _ _ ⟨rfl, hI'⟩
        replace hI := hI.call0 hI'
        clear hI'
        refine ⟨_, rfl, ?_⟩
        refine o_batch 6 [] [.p, .p, .p] [(20, .bool (!y27)), (21, .bool (!y27)), (2, .bool (!y27))] [] trivial trivial (by kernel_rfl) (by kernel_rfl) (by kernel_rfl) ?_
        refine r_out (by kernel_rfl) ?_
        replace H := Option.some.inj H
        subst H
        exact go_return (.bool (!y27)) Try.func6 (by kernel_rfl) ⟨rfl, hI.pick [] (by decide) rfl⟩
      · refine o_batch 0 [] [.p, .p, .p, .c false, .p, .p, .p, .p, .p] [(14, .slice A15 y13.length c16), (15, .int .i64 (y13.length : Int)), (16, .bool ((y13.length : Int) == 0)), (17, .bool false), (18, undef), (19, undef), (20, undef), (21, .bool false), (2, .bool false)] [((bif ((y13.length : Int) == 0) == false then 0 else -1), 1)] trivial ⟨(bndEq hc26), trivial⟩ (by kernel_rfl) (by kernel_rfl) (by kernel_rfl) ?_
        refine r_out (by kernel_rfl) ?_
        replace H := Option.some.inj H
        subst H
        exact go_return (.bool false) Try.func6 (by kernel_rfl) ⟨rfl, hI.pick [] (by decide) rfl⟩
    · refine go_else' (t := ((a0.length : Int) != 9)) (by kernel_rfl) hc22 ?_
      refine go_skip ?_
      refine go_seq ?_
      refine go_seq_join (o := r) (fun b43 f w => ∃ (j : Nat → Value), f = updL j [(0, .slice A0z a0.length c0z), (3, .slice A15 y13.length c16), (34, .bool b43)] ∧ Inv M w [.row tBool 4 A15 y13.length c16 y13]) (fun b43 => assizelaw13zLevelUnder.j1 a0 y13 b43) ?_ (fun hJ44 => ?_)
      · clear H hI
        rintro b43 _ _ ⟨_, rfl, hI⟩ H
        replace H := cond_some H
        rcases H with ⟨hc45, H⟩ | ⟨hc45, H⟩
        · refine go_then' (t := b43) (by kernel_rfl) hc45 ?_
          refine go_seq ?_
          refine r_in ?_
          refine o_batch 0 [] [.p] [(2, .bool false)] [] trivial trivial (by kernel_rfl) (by kernel_rfl) (by kernel_rfl) ?_
          refine r_out (by kernel_rfl) ?_
          replace H := Option.some.inj H
          subst H
          exact go_return (.bool false) Try.func6 (by kernel_rfl) ⟨rfl, hI.pick [] (by decide) rfl⟩
        · refine go_else' (t := b43) (by kernel_rfl) hc45 ?_
          refine go_skip ?_
          refine go_seq ?_
          refine go_seq ?_
          refine r_in ?_
          refine o_batch 0 [] [.p] [(4, .int .i64 1)] [] trivial trivial (by kernel_rfl) (by kernel_rfl) (by kernel_rfl) ?_
          refine r_out (by kernel_rfl) ?_
          refine go_block ?_
          refine go_iter (assizelaw13zLevelUnder.s2 a0 y13) (fun x396 f w => ∃ (j : Nat → Value), f = updL j [(0, .slice A0z a0.length c0z), (3, .slice A15 y13.length c16), (4, .int .i64 x396)] ∧ Inv M w [.row tBool 4 A15 y13.length c16 y13]) H ⟨_, at_slots _ (by kernel_rfl), hI⟩ ?_
          clear H hI
          rintro x396 _ _ o1 H ⟨_, rfl, hI⟩ hin1 hout1
          refine go_seq ?_
          refine go_seq ?_
          refine r_in ?_
          refine o_batch 0 [] [.p, .p] [(35, .int .i64 x396), (36, .bool (decide (x396 ≤ 8)))] [] trivial trivial (by kernel_rfl) (by kernel_rfl) (by kernel_rfl) ?_
          refine r_out (by kernel_rfl) ?_
          replace H := cond_some H
          rcases H with ⟨hc398, H⟩ | ⟨hc398, H⟩
          · refine go_then' (t := decide (x396 ≤ 8)) (by kernel_rfl) hc398 ?_
            refine go_skip ?_
            refine go_seq ?_
            refine go_block ?_
            refine go_seq ?_
            refine r_in ?_
            refine o_batch 0 [] [.p] [(5, .bool false)] [] trivial trivial (by kernel_rfl) (by kernel_rfl) (by kernel_rfl) ?_
            refine r_out (by kernel_rfl) ?_
            refine go_seq ?_
            refine go_seq ?_
            refine r_in ?_
            refine o_batch 0 [] [.p] [(6, .int .i64 1)] [] trivial trivial (by kernel_rfl) (by kernel_rfl) (by kernel_rfl) ?_
            refine r_out (by kernel_rfl) ?_
            refine go_block ?_
            refine go_iter (assizelaw13zLevelUnder.s3 a0 y13 x396) (fun (b584, x585) f w => ∃ (j : Nat → Value), f = updL j [(0, .slice A0z a0.length c0z), (3, .slice A15 y13.length c16), (4, .int .i64 x396), (5, .bool b584), (6, .int .i64 x585)] ∧ Inv M w [.row tBool 4 A15 y13.length c16 y13]) H ⟨_, at_slots _ (by kernel_rfl), hI⟩ ?_
            clear H hI
            rintro ⟨b584, x585⟩ _ _ o2 H ⟨_, rfl, hI⟩ hin2 hout2
            refine go_seq ?_
            refine go_seq ?_
            refine r_in ?_
            refine o_batch 0 [] [.p, .p] [(39, .int .i64 x585), (40, .bool (decide (x585 ≤ 8)))] [] trivial trivial (by kernel_rfl) (by kernel_rfl) (by kernel_rfl) ?_
            refine r_out (by kernel_rfl) ?_
            replace H := cond_some H
            rcases H with ⟨hc587, H⟩ | ⟨hc587, H⟩
            · refine go_then' (t := decide (x585 ≤ 8)) (by kernel_rfl) hc587 ?_
              refine go_skip ?_
              refine go_seq ?_
              refine go_block_join (o := o2) (fun b603 f w => ∃ (j : Nat → Value), f = updL j [(0, .slice A0z a0.length c0z), (3, .slice A15 y13.length c16), (4, .int .i64 x396), (5, .bool b603), (6, .int .i64 x585)] ∧ Inv M w [.row tBool 4 A15 y13.length c16 y13]) (fun b603 => assizelaw13zLevelUnder.j4 x585 b603) ?_ (fun hJ604 => ?_)
              · clear H hI
                rintro b603 _ _ ⟨_, rfl, hI⟩ H
                refine r_in ?_
                refine o_batch 0 [] [.p, .p, .p] [(41, .int .i64 x585), (42, .int .i64 (w64 (x585 + 1))), (6, .int .i64 (w64 (x585 + 1)))] [] trivial trivial (by kernel_rfl) (by kernel_rfl) (by kernel_rfl) ?_
                refine r_out (by kernel_rfl) ?_
                exact hin2 _ (Option.some.inj H).symm _ _ ⟨_, at_slots _ (by kernel_rfl), hI⟩
              · refine r_in ?_
                replace H := cond_some H
                rcases H with ⟨hc605, H⟩ | ⟨hc605, H⟩
                · refine o_batch 0 [] [.p, .c true, .p, .p, .p, .p, .p, .p, .p, .p, .p, .p, .p] [(43, .bool b584), (44, .bool true), (45, undef), (46, undef), (47, undef), (48, undef), (49, undef), (50, undef), (51, undef), (52, undef), (53, undef), (54, .bool true), (5, .bool true)] [((bif b584 == true then 0 else -1), 1)] trivial ⟨(bndEq hc605), trivial⟩ (by kernel_rfl) (by kernel_rfl) (by kernel_rfl) ?_
                  refine r_out (by kernel_rfl) ?_
                  refine go_inBlock ?_
                  exact hJ604 true _ _ ⟨_, at_slots _ (by kernel_rfl), hI⟩ H
                · replace H := must_some H
                  obtain ⟨g606, H⟩ := H
                  obtain ⟨b607, q608, rfl, _⟩ := rdS.fopen hr0z rfl g606
                  replace H := cond_some H
                  rcases H with ⟨hc609, H⟩ | ⟨hc609, H⟩
                  · refine o_batch 0 [(b607, q608 + x585.toNat * 1, [.bool (idx a0 x585)])] [.p, .c false, .p, .p, .x, .l 0 0, .c true, .p, .p] [(43, .bool b584), (44, .bool false), (45, .slice (some ⟨b607, q608, none⟩) a0.length c0z), (46, .int .i64 x585), (47, .pointer (some ⟨b607, q608 + x585.toNat * 1, none⟩)), (48, .bool (idx a0 x585)), (49, .bool true), (50, .int .i64 x396), (51, .int .i64 x585)] [((bif b584 == false then 0 else -1), 1), (x585, a0.length), ((bif (idx a0 x585) == true then 0 else -1), 1)] ⟨(hI.lies (rdS.flook hr0z rfl g606)), trivial⟩ ⟨(bndEq hc605), g606, (bndEq hc609), trivial⟩ (by kernel_rfl) (by kernel_rfl) (by kernel_rfl) ?_
                    replace H := bind_some H
                    obtain ⟨y610, hy611, H⟩ := H
                    refine o_eff 9 _ rfl (by kernel_rfl) ?_
                    refine e_callf _ _ _ 12 #[] #[] #[.int .i64 x396, .int .i64 x585] #[.int .i64 x396, .int .i64 x585] rfl (by kernel_rfl) (by kernel_rfl) (by kernel_rfl) (enter12 _) (level_Below_calls x396 x585 (memOf _) _ (Inv.start _) _ hy611) ?_
                    rintro _ _ ⟨rfl, hI'⟩
                    replace hI := hI.call0 hI'
                    clear hI'
                    refine ⟨_, rfl, ?_⟩
                    refine o_batch 10 [] [.p, .p, .p] [(53, .bool y610), (54, .bool y610), (5, .bool y610)] [] trivial trivial (by kernel_rfl) (by kernel_rfl) (by kernel_rfl) ?_
                    refine r_out (by kernel_rfl) ?_
                    refine go_inBlock ?_
                    exact hJ604 y610 _ _ ⟨_, at_slots _ (by kernel_rfl), hI⟩ H
                  · refine o_batch 0 [(b607, q608 + x585.toNat * 1, [.bool (idx a0 x585)])] [.p, .c false, .p, .p, .x, .l 0 0, .c false, .p, .p, .p, .p, .p, .p] [(43, .bool b584), (44, .bool false), (45, .slice (some ⟨b607, q608, none⟩) a0.length c0z), (46, .int .i64 x585), (47, .pointer (some ⟨b607, q608 + x585.toNat * 1, none⟩)), (48, .bool (idx a0 x585)), (49, .bool false), (50, undef), (51, undef), (52, undef), (53, .bool false), (54, .bool false), (5, .bool false)] [((bif b584 == false then 0 else -1), 1), (x585, a0.length), ((bif (idx a0 x585) == false then 0 else -1), 1)] ⟨(hI.lies (rdS.flook hr0z rfl g606)), trivial⟩ ⟨(bndEq hc605), g606, (bndEq hc609), trivial⟩ (by kernel_rfl) (by kernel_rfl) (by kernel_rfl) ?_
                    refine r_out (by kernel_rfl) ?_
                    refine go_inBlock ?_
                    exact hJ604 false _ _ ⟨_, at_slots _ (by kernel_rfl), hI⟩ H
            · refine go_else' (t := decide (x585 ≤ 8)) (by kernel_rfl) hc587 ?_
              refine go_exit rfl ?_
              refine go_seq ?_
              refine r_in ?_
              replace H := must_some H
              obtain ⟨g614, H⟩ := H
              obtain ⟨b615, rfl⟩ := hI.rowAt 0 rfl g614
              refine o_batch 0 [(b615, 0 + x396.toNat * 1, [.bool (idx y13 x396)])] [.p, .p, .x, .l 0 0, .p, .p] [(55, .slice (some ⟨b615, 0, none⟩) y13.length c16), (56, .int .i64 x396), (57, .pointer (some ⟨b615, 0 + x396.toNat * 1, none⟩)), (58, .bool (idx y13 x396)), (59, .bool b584), (60, .bool (idx y13 x396 != b584))] [(x396, y13.length)] ⟨(rdS.flook (hI.row 0 rfl) (hI.rowlen 0 rfl) g614).ok, trivial⟩ ⟨g614, trivial⟩ (by kernel_rfl) (by kernel_rfl) (by kernel_rfl) ?_
              refine r_out (by kernel_rfl) ?_
              replace H := cond_some H
              rcases H with ⟨hc616, H⟩ | ⟨hc616, H⟩
              · refine go_then' (t := (idx y13 x396 != b584)) (by kernel_rfl) hc616 ?_
                refine go_seq ?_
                refine r_in ?_
                refine o_batch 0 [] [.p] [(2, .bool false)] [] trivial trivial (by kernel_rfl) (by kernel_rfl) (by kernel_rfl) ?_
                refine r_out (by kernel_rfl) ?_
                replace H := out_some H
                obtain ⟨_, H, he2⟩ := H
                have he := (hout2 _ he2).symm
                subst he
                replace H := out_some H
                obtain ⟨_, H, he1⟩ := H
                have he := (hout1 _ he1).symm
                subst he
                replace H := Option.some.inj H
                subst H
                exact go_return (.bool false) Try.func6 (by kernel_rfl) ⟨rfl, hI.pick [] (by decide) rfl⟩
              · refine go_else' (t := (idx y13 x396 != b584)) (by kernel_rfl) hc616 ?_
                refine go_skip ?_
                refine go_inBlock ?_
                refine r_in ?_
                refine o_batch 0 [] [.p, .p, .p] [(37, .int .i64 x396), (38, .int .i64 (w64 (x396 + 1))), (4, .int .i64 (w64 (x396 + 1)))] [] trivial trivial (by kernel_rfl) (by kernel_rfl) (by kernel_rfl) ?_
                refine r_out (by kernel_rfl) ?_
                replace H := out_some H
                obtain ⟨_, H, he2⟩ := H
                have he := (hout2 _ he2).symm
                subst he
                exact hin1 _ (Option.some.inj H).symm _ _ ⟨_, at_slots _ (by kernel_rfl), hI⟩
          · refine go_else' (t := decide (x396 ≤ 8)) (by kernel_rfl) hc398 ?_
            refine go_exit rfl ?_
            refine go_seq ?_
            replace H := bind_some H
            obtain ⟨y711, hy712, H⟩ := H
            replace H := must_some H
            obtain ⟨g713, H⟩ := H
            replace H := must_some H
            obtain ⟨g718, H⟩ := H
            replace H := bind_some H
            obtain ⟨y723, hy724, H⟩ := H
            refine go_held (fun w => Inv M w [.row tBool 4 A15 y13.length c16 y13]) (by kernel_rfl) ?_
            replace hI := hI.drew'
            refine held_batch (n := 6) [] [(0, .p), (2, .p), (4, .p)] [(61, .slice A0z a0.length c0z), (63, .slice A15 y13.length c16), (65, .slice A0z a0.length c0z)] [] [true, false, true, false, true, false, false, false, false] (by kernel_rfl) (fun w hS => trivial) hI trivial (by kernel_rfl) (by kernel_rfl) (by kernel_rfl) ?_
            refine held_each (n := 5) [1, 3, 5] (by simp) (by kernel_rfl) ⟨⟨_, rfl, by kernel_rfl, ?_⟩, ⟨_, rfl, by kernel_rfl, ?_⟩, ⟨_, rfl, by kernel_rfl, ?_⟩, trivial⟩
            · refine (e_callf _ _ _ 19 #[] #[] #[.slice A0z a0.length c0z] #[.slice A0z a0.length c0z] rfl (by kernel_rfl) (by kernel_rfl) (by kernel_rfl) (enter19 _) (level_Closed_calls A0z c0z a0 (memOf _) _ (Inv.start _) (hI.rd hr0z) hl0z _ hy712) ?_)
              rintro _ _ ⟨rfl, hI'⟩
              replace hI := hI.call0 hI'
              clear hI'
              refine ⟨_, rfl, ?_⟩
              refine ⟨hI, ?_⟩
              refine held_each (n := 4) [3, 5] (by simp) (by kernel_rfl) ⟨⟨_, rfl, by kernel_rfl, ?_⟩, ⟨_, rfl, by kernel_rfl, ?_⟩, trivial⟩
              · refine (e_slice_view tBool 34 4 _ _ _ _ A15 c16 y13 .i64 .i64 (1 : Int) (y13.length : Int) rfl (by kernel_rfl) (by kernel_rfl) (by kernel_rfl) rfl rfl rfl (hI.rowle 0 rfl) g713 ?_)
                intro A741 c742 hr743 hl744
                refine ⟨hI, ?_⟩
                refine held_one (n := 3) 5 _ rfl (by kernel_rfl) (by kernel_rfl) (e_slice_ro tBool _ 34 4 _ _ _ _ A0z c0z a0 .i64 .i64 (1 : Int) (a0.length : Int) rfl (by kernel_rfl) (by kernel_rfl) (by kernel_rfl) rfl rfl rfl hr0z hl0z g718 ?_)
                intro A749 c750 hr751 hl752
                refine ⟨hI, ?_⟩
                refine held_one (n := 2) 6 _ rfl (by kernel_rfl) (by kernel_rfl) (e_callf _ _ _ 18 #[] #[] #[.slice A741 ((subl y13 (1 : Int) (y13.length : Int)).length) c742, .slice A749 ((subl a0 (1 : Int) (a0.length : Int)).length) c750] #[.slice A741 ((subl y13 (1 : Int) (y13.length : Int)).length) c742, .slice A749 ((subl a0 (1 : Int) (a0.length : Int)).length) c750] rfl (by kernel_rfl) (by kernel_rfl) (by kernel_rfl) (enter18 _) (assizeref06zSameBools_calls A741 c742 (subl y13 (1 : Int) (y13.length : Int)) A749 c750 (subl a0 (1 : Int) (a0.length : Int)) (memOf _) _ (Inv.start _) (hr743 _ (hI.row 0 rfl)) hl744 (hI.rd hr751) hl752 _ hy724) ?_)
                rintro _ _ ⟨rfl, hI'⟩
                replace hI := hI.call0 hI'
                clear hI'
                refine ⟨_, rfl, ?_⟩
                refine ⟨hI, ?_⟩
                refine held_batch (n := 0) [] [(7, .p), (8, .p)] [(68, .bool (y711 == y723)), (2, .bool (y711 == y723))] [] [true, true, true, true, true, true, true, true, true] (by kernel_rfl) (fun w hS => trivial) hI trivial (by kernel_rfl) (by kernel_rfl) (by kernel_rfl) ?_
                refine held_done (by kernel_rfl) ?_
                replace H := out_some H
                obtain ⟨_, H, he1⟩ := H
                have he := (hout1 _ he1).symm
                subst he
                replace H := Option.some.inj H
                subst H
                exact go_return (.bool (y711 == y723)) Try.func6 (by kernel_rfl) ⟨rfl, hI.pick [] (by decide) rfl⟩
              · refine (e_slice_ro tBool _ 34 4 _ _ _ _ A0z c0z a0 .i64 .i64 (1 : Int) (a0.length : Int) rfl (by kernel_rfl) (by kernel_rfl) (by kernel_rfl) rfl rfl rfl hr0z hl0z g718 ?_)
                intro A753 c754 hr755 hl756
                refine ⟨hI, ?_⟩
                refine held_one (n := 3) 3 _ rfl (by kernel_rfl) (by kernel_rfl) (e_slice_view tBool 34 4 _ _ _ _ A15 c16 y13 .i64 .i64 (1 : Int) (y13.length : Int) rfl (by kernel_rfl) (by kernel_rfl) (by kernel_rfl) rfl rfl rfl (hI.rowle 0 rfl) g713 ?_)
                intro A761 c762 hr763 hl764
                refine ⟨hI, ?_⟩
                refine held_one (n := 2) 6 _ rfl (by kernel_rfl) (by kernel_rfl) (e_callf _ _ _ 18 #[] #[] #[.slice A761 ((subl y13 (1 : Int) (y13.length : Int)).length) c762, .slice A753 ((subl a0 (1 : Int) (a0.length : Int)).length) c754] #[.slice A761 ((subl y13 (1 : Int) (y13.length : Int)).length) c762, .slice A753 ((subl a0 (1 : Int) (a0.length : Int)).length) c754] rfl (by kernel_rfl) (by kernel_rfl) (by kernel_rfl) (enter18 _) (assizeref06zSameBools_calls A761 c762 (subl y13 (1 : Int) (y13.length : Int)) A753 c754 (subl a0 (1 : Int) (a0.length : Int)) (memOf _) _ (Inv.start _) (hr763 _ (hI.row 0 rfl)) hl764 (hI.rd hr755) hl756 _ hy724) ?_)
                rintro _ _ ⟨rfl, hI'⟩
                replace hI := hI.call0 hI'
                clear hI'
                refine ⟨_, rfl, ?_⟩
                refine ⟨hI, ?_⟩
                refine held_batch (n := 0) [] [(7, .p), (8, .p)] [(68, .bool (y711 == y723)), (2, .bool (y711 == y723))] [] [true, true, true, true, true, true, true, true, true] (by kernel_rfl) (fun w hS => trivial) hI trivial (by kernel_rfl) (by kernel_rfl) (by kernel_rfl) ?_
                refine held_done (by kernel_rfl) ?_
                replace H := out_some H
                obtain ⟨_, H, he1⟩ := H
                have he := (hout1 _ he1).symm
                subst he
                replace H := Option.some.inj H
                subst H
                exact go_return (.bool (y711 == y723)) Try.func6 (by kernel_rfl) ⟨rfl, hI.pick [] (by decide) rfl⟩
            · refine (e_slice_view tBool 34 4 _ _ _ _ A15 c16 y13 .i64 .i64 (1 : Int) (y13.length : Int) rfl (by kernel_rfl) (by kernel_rfl) (by kernel_rfl) rfl rfl rfl (hI.rowle 0 rfl) g713 ?_)
              intro A765 c766 hr767 hl768
              refine ⟨hI, ?_⟩
              refine held_each (n := 4) [1, 5] (by simp) (by kernel_rfl) ⟨⟨_, rfl, by kernel_rfl, ?_⟩, ⟨_, rfl, by kernel_rfl, ?_⟩, trivial⟩
              · refine (e_callf _ _ _ 19 #[] #[] #[.slice A0z a0.length c0z] #[.slice A0z a0.length c0z] rfl (by kernel_rfl) (by kernel_rfl) (by kernel_rfl) (enter19 _) (level_Closed_calls A0z c0z a0 (memOf _) _ (Inv.start _) (hI.rd hr0z) hl0z _ hy712) ?_)
                rintro _ _ ⟨rfl, hI'⟩
                replace hI := hI.call0 hI'
                clear hI'
                refine ⟨_, rfl, ?_⟩
                refine ⟨hI, ?_⟩
                refine held_one (n := 3) 5 _ rfl (by kernel_rfl) (by kernel_rfl) (e_slice_ro tBool _ 34 4 _ _ _ _ A0z c0z a0 .i64 .i64 (1 : Int) (a0.length : Int) rfl (by kernel_rfl) (by kernel_rfl) (by kernel_rfl) rfl rfl rfl hr0z hl0z g718 ?_)
                intro A777 c778 hr779 hl780
                refine ⟨hI, ?_⟩
                refine held_one (n := 2) 6 _ rfl (by kernel_rfl) (by kernel_rfl) (e_callf _ _ _ 18 #[] #[] #[.slice A765 ((subl y13 (1 : Int) (y13.length : Int)).length) c766, .slice A777 ((subl a0 (1 : Int) (a0.length : Int)).length) c778] #[.slice A765 ((subl y13 (1 : Int) (y13.length : Int)).length) c766, .slice A777 ((subl a0 (1 : Int) (a0.length : Int)).length) c778] rfl (by kernel_rfl) (by kernel_rfl) (by kernel_rfl) (enter18 _) (assizeref06zSameBools_calls A765 c766 (subl y13 (1 : Int) (y13.length : Int)) A777 c778 (subl a0 (1 : Int) (a0.length : Int)) (memOf _) _ (Inv.start _) (hr767 _ (hI.row 0 rfl)) hl768 (hI.rd hr779) hl780 _ hy724) ?_)
                rintro _ _ ⟨rfl, hI'⟩
                replace hI := hI.call0 hI'
                clear hI'
                refine ⟨_, rfl, ?_⟩
                refine ⟨hI, ?_⟩
                refine held_batch (n := 0) [] [(7, .p), (8, .p)] [(68, .bool (y711 == y723)), (2, .bool (y711 == y723))] [] [true, true, true, true, true, true, true, true, true] (by kernel_rfl) (fun w hS => trivial) hI trivial (by kernel_rfl) (by kernel_rfl) (by kernel_rfl) ?_
                refine held_done (by kernel_rfl) ?_
                replace H := out_some H
                obtain ⟨_, H, he1⟩ := H
                have he := (hout1 _ he1).symm
                subst he
                replace H := Option.some.inj H
                subst H
                exact go_return (.bool (y711 == y723)) Try.func6 (by kernel_rfl) ⟨rfl, hI.pick [] (by decide) rfl⟩
              · refine (e_slice_ro tBool _ 34 4 _ _ _ _ A0z c0z a0 .i64 .i64 (1 : Int) (a0.length : Int) rfl (by kernel_rfl) (by kernel_rfl) (by kernel_rfl) rfl rfl rfl hr0z hl0z g718 ?_)
                intro A781 c782 hr783 hl784
                refine ⟨hI, ?_⟩
                refine held_one (n := 3) 1 _ rfl (by kernel_rfl) (by kernel_rfl) (e_callf _ _ _ 19 #[] #[] #[.slice A0z a0.length c0z] #[.slice A0z a0.length c0z] rfl (by kernel_rfl) (by kernel_rfl) (by kernel_rfl) (enter19 _) (level_Closed_calls A0z c0z a0 (memOf _) _ (Inv.start _) (hI.rd hr0z) hl0z _ hy712) ?_)
                rintro _ _ ⟨rfl, hI'⟩
                replace hI := hI.call0 hI'
                clear hI'
                refine ⟨_, rfl, ?_⟩
                refine ⟨hI, ?_⟩
                refine held_one (n := 2) 6 _ rfl (by kernel_rfl) (by kernel_rfl) (e_callf _ _ _ 18 #[] #[] #[.slice A765 ((subl y13 (1 : Int) (y13.length : Int)).length) c766, .slice A781 ((subl a0 (1 : Int) (a0.length : Int)).length) c782] #[.slice A765 ((subl y13 (1 : Int) (y13.length : Int)).length) c766, .slice A781 ((subl a0 (1 : Int) (a0.length : Int)).length) c782] rfl (by kernel_rfl) (by kernel_rfl) (by kernel_rfl) (enter18 _) (assizeref06zSameBools_calls A765 c766 (subl y13 (1 : Int) (y13.length : Int)) A781 c782 (subl a0 (1 : Int) (a0.length : Int)) (memOf _) _ (Inv.start _) (hr767 _ (hI.row 0 rfl)) hl768 (hI.rd hr783) hl784 _ hy724) ?_)
                rintro _ _ ⟨rfl, hI'⟩
                replace hI := hI.call0 hI'
                clear hI'
                refine ⟨_, rfl, ?_⟩
                refine ⟨hI, ?_⟩
                refine held_batch (n := 0) [] [(7, .p), (8, .p)] [(68, .bool (y711 == y723)), (2, .bool (y711 == y723))] [] [true, true, true, true, true, true, true, true, true] (by kernel_rfl) (fun w hS => trivial) hI trivial (by kernel_rfl) (by kernel_rfl) (by kernel_rfl) ?_
                refine held_done (by kernel_rfl) ?_
                replace H := out_some H
                obtain ⟨_, H, he1⟩ := H
                have he := (hout1 _ he1).symm
                subst he
                replace H := Option.some.inj H
                subst H
                exact go_return (.bool (y711 == y723)) Try.func6 (by kernel_rfl) ⟨rfl, hI.pick [] (by decide) rfl⟩
            · refine (e_slice_ro tBool _ 34 4 _ _ _ _ A0z c0z a0 .i64 .i64 (1 : Int) (a0.length : Int) rfl (by kernel_rfl) (by kernel_rfl) (by kernel_rfl) rfl rfl rfl hr0z hl0z g718 ?_)
              intro A785 c786 hr787 hl788
              refine ⟨hI, ?_⟩
              refine held_each (n := 4) [1, 3] (by simp) (by kernel_rfl) ⟨⟨_, rfl, by kernel_rfl, ?_⟩, ⟨_, rfl, by kernel_rfl, ?_⟩, trivial⟩
              · refine (e_callf _ _ _ 19 #[] #[] #[.slice A0z a0.length c0z] #[.slice A0z a0.length c0z] rfl (by kernel_rfl) (by kernel_rfl) (by kernel_rfl) (enter19 _) (level_Closed_calls A0z c0z a0 (memOf _) _ (Inv.start _) (hI.rd hr0z) hl0z _ hy712) ?_)
                rintro _ _ ⟨rfl, hI'⟩
                replace hI := hI.call0 hI'
                clear hI'
                refine ⟨_, rfl, ?_⟩
                refine ⟨hI, ?_⟩
                refine held_one (n := 3) 3 _ rfl (by kernel_rfl) (by kernel_rfl) (e_slice_view tBool 34 4 _ _ _ _ A15 c16 y13 .i64 .i64 (1 : Int) (y13.length : Int) rfl (by kernel_rfl) (by kernel_rfl) (by kernel_rfl) rfl rfl rfl (hI.rowle 0 rfl) g713 ?_)
                intro A797 c798 hr799 hl800
                refine ⟨hI, ?_⟩
                refine held_one (n := 2) 6 _ rfl (by kernel_rfl) (by kernel_rfl) (e_callf _ _ _ 18 #[] #[] #[.slice A797 ((subl y13 (1 : Int) (y13.length : Int)).length) c798, .slice A785 ((subl a0 (1 : Int) (a0.length : Int)).length) c786] #[.slice A797 ((subl y13 (1 : Int) (y13.length : Int)).length) c798, .slice A785 ((subl a0 (1 : Int) (a0.length : Int)).length) c786] rfl (by kernel_rfl) (by kernel_rfl) (by kernel_rfl) (enter18 _) (assizeref06zSameBools_calls A797 c798 (subl y13 (1 : Int) (y13.length : Int)) A785 c786 (subl a0 (1 : Int) (a0.length : Int)) (memOf _) _ (Inv.start _) (hr799 _ (hI.row 0 rfl)) hl800 (hI.rd hr787) hl788 _ hy724) ?_)
                rintro _ _ ⟨rfl, hI'⟩
                replace hI := hI.call0 hI'
                clear hI'
                refine ⟨_, rfl, ?_⟩
                refine ⟨hI, ?_⟩
                refine held_batch (n := 0) [] [(7, .p), (8, .p)] [(68, .bool (y711 == y723)), (2, .bool (y711 == y723))] [] [true, true, true, true, true, true, true, true, true] (by kernel_rfl) (fun w hS => trivial) hI trivial (by kernel_rfl) (by kernel_rfl) (by kernel_rfl) ?_
                refine held_done (by kernel_rfl) ?_
                replace H := out_some H
                obtain ⟨_, H, he1⟩ := H
                have he := (hout1 _ he1).symm
                subst he
                replace H := Option.some.inj H
                subst H
                exact go_return (.bool (y711 == y723)) Try.func6 (by kernel_rfl) ⟨rfl, hI.pick [] (by decide) rfl⟩
              · refine (e_slice_view tBool 34 4 _ _ _ _ A15 c16 y13 .i64 .i64 (1 : Int) (y13.length : Int) rfl (by kernel_rfl) (by kernel_rfl) (by kernel_rfl) rfl rfl rfl (hI.rowle 0 rfl) g713 ?_)
                intro A801 c802 hr803 hl804
                refine ⟨hI, ?_⟩
                refine held_one (n := 3) 1 _ rfl (by kernel_rfl) (by kernel_rfl) (e_callf _ _ _ 19 #[] #[] #[.slice A0z a0.length c0z] #[.slice A0z a0.length c0z] rfl (by kernel_rfl) (by kernel_rfl) (by kernel_rfl) (enter19 _) (level_Closed_calls A0z c0z a0 (memOf _) _ (Inv.start _) (hI.rd hr0z) hl0z _ hy712) ?_)
                rintro _ _ ⟨rfl, hI'⟩
                replace hI := hI.call0 hI'
                clear hI'
                refine ⟨_, rfl, ?_⟩
                refine ⟨hI, ?_⟩
                refine held_one (n := 2) 6 _ rfl (by kernel_rfl) (by kernel_rfl) (e_callf _ _ _ 18 #[] #[] #[.slice A801 ((subl y13 (1 : Int) (y13.length : Int)).length) c802, .slice A785 ((subl a0 (1 : Int) (a0.length : Int)).length) c786] #[.slice A801 ((subl y13 (1 : Int) (y13.length : Int)).length) c802, .slice A785 ((subl a0 (1 : Int) (a0.length : Int)).length) c786] rfl (by kernel_rfl) (by kernel_rfl) (by kernel_rfl) (enter18 _) (assizeref06zSameBools_calls A801 c802 (subl y13 (1 : Int) (y13.length : Int)) A785 c786 (subl a0 (1 : Int) (a0.length : Int)) (memOf _) _ (Inv.start _) (hr803 _ (hI.row 0 rfl)) hl804 (hI.rd hr787) hl788 _ hy724) ?_)
                rintro _ _ ⟨rfl, hI'⟩
                replace hI := hI.call0 hI'
                clear hI'
                refine ⟨_, rfl, ?_⟩
                refine ⟨hI, ?_⟩
                refine held_batch (n := 0) [] [(7, .p), (8, .p)] [(68, .bool (y711 == y723)), (2, .bool (y711 == y723))] [] [true, true, true, true, true, true, true, true, true] (by kernel_rfl) (fun w hS => trivial) hI trivial (by kernel_rfl) (by kernel_rfl) (by kernel_rfl) ?_
                refine held_done (by kernel_rfl) ?_
                replace H := out_some H
                obtain ⟨_, H, he1⟩ := H
                have he := (hout1 _ he1).symm
                subst he
                replace H := Option.some.inj H
                subst H
                exact go_return (.bool (y711 == y723)) Try.func6 (by kernel_rfl) ⟨rfl, hI.pick [] (by decide) rfl⟩
      · refine r_in ?_
        refine o_batch 0 [] [.p] [(22, .slice A15 y13.length c16)] [] trivial trivial (by kernel_rfl) (by kernel_rfl) (by kernel_rfl) ?_
        replace H := bind_some H
        obtain ⟨y805, hy806, H⟩ := H
        refine o_eff 1 _ rfl (by kernel_rfl) ?_
        refine e_callf _ _ _ 19 #[] #[] #[.slice A15 y13.length c16] #[.slice A15 y13.length c16] rfl (by kernel_rfl) (by kernel_rfl) (by kernel_rfl) (enter19 _) (level_Closed_calls A15 c16 y13 (memOf _) _ (Inv.start _) (hI.row 0 rfl) (hI.rowle 0 rfl) _ hy806) ?_
        rintro _ _ ⟨rfl, hI'⟩
        replace hI := hI.call0 hI'
        clear hI'
        refine ⟨_, rfl, ?_⟩
        replace H := cond_some H
        rcases H with ⟨hc807, H⟩ | ⟨hc807, H⟩
        · refine o_batch 2 [] [.p, .c true, .p, .p, .p, .p, .p, .p, .p, .p, .p] [(24, .bool (!y805)), (25, .bool true), (26, undef), (27, undef), (28, undef), (29, .bool true), (30, .bool true), (31, undef), (32, undef), (33, undef), (34, .bool true)] [((bif (!y805) == true then 0 else -1), 1)] trivial ⟨(bndEq hc807), trivial⟩ (by kernel_rfl) (by kernel_rfl) (by kernel_rfl) ?_
          refine r_out (by kernel_rfl) ?_
          exact hJ44 true _ _ ⟨_, at_slots _ (by kernel_rfl), hI⟩ H
        · replace H := cond_some H
          rcases H with ⟨hc808, H⟩ | ⟨hc808, H⟩
          · refine o_batch 2 [] [.p, .c false, .p, .p, .p, .p, .c true, .p, .p, .p, .p] [(24, .bool (!y805)), (25, .bool false), (26, .slice A15 y13.length c16), (27, .int .i64 (y13.length : Int)), (28, .bool ((y13.length : Int) != 9)), (29, .bool ((y13.length : Int) != 9)), (30, .bool true), (31, undef), (32, undef), (33, undef), (34, .bool true)] [((bif (!y805) == false then 0 else -1), 1), ((bif ((y13.length : Int) != 9) == true then 0 else -1), 1)] trivial ⟨(bndEq hc807), (bndEq hc808), trivial⟩ (by kernel_rfl) (by kernel_rfl) (by kernel_rfl) ?_
            refine r_out (by kernel_rfl) ?_
            exact hJ44 true _ _ ⟨_, at_slots _ (by kernel_rfl), hI⟩ H
          · replace H := must_some H
            obtain ⟨g809, H⟩ := H
            obtain ⟨b810, rfl⟩ := hI.rowAt 0 rfl g809
            refine o_batch 2 [(b810, 0 + (0 : Int).toNat * 1, [.bool (idx y13 (0 : Int))])] [.p, .c false, .p, .p, .p, .p, .c false, .p, .x, .l 0 0, .p] [(24, .bool (!y805)), (25, .bool false), (26, .slice (some ⟨b810, 0, none⟩) y13.length c16), (27, .int .i64 (y13.length : Int)), (28, .bool ((y13.length : Int) != 9)), (29, .bool ((y13.length : Int) != 9)), (30, .bool false), (31, .slice (some ⟨b810, 0, none⟩) y13.length c16), (32, .pointer (some ⟨b810, 0 + (0 : Int).toNat * 1, none⟩)), (33, .bool (idx y13 (0 : Int))), (34, .bool (idx y13 (0 : Int)))] [((bif (!y805) == false then 0 else -1), 1), ((bif ((y13.length : Int) != 9) == false then 0 else -1), 1), (0, y13.length)] ⟨(rdS.flook (hI.row 0 rfl) (hI.rowlen 0 rfl) g809).ok, trivial⟩ ⟨(bndEq hc807), (bndEq hc808), g809, trivial⟩ (by kernel_rfl) (by kernel_rfl) (by kernel_rfl) ?_
            refine r_out (by kernel_rfl) ?_
            exact hJ44 (idx y13 (0 : Int)) _ _ ⟨_, at_slots _ (by kernel_rfl), hI⟩ H

end Go.Proofs.YtohaphbogjigcaaT
