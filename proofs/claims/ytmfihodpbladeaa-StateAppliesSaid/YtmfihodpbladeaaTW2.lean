/- The walks, part 2: each call computes its plain function. -/
import Derived.Test.YtmfihodpbladeaaTW1
import Derived.Test.YtmfihodpbladeaaProg
namespace Go.Proofs.YtmfihodpbladeaaT
open Go Go.Proofs Go.Proofs.YtmfihodpbladeaaE
set_option linter.unusedVariables false
set_option linter.unusedSimpArgs false
set_option maxHeartbeats 0
set_option maxRecDepth 4096
/-! ### assizeref08.Apply -/
theorem enter17 (a : Array Value) : Sem.pureRun Try.prog (callFunc 17 a) = some (.enter 17 a) := by kernel_rfl
theorem assizeref08zApply_calls (a0 : Int) (A1z : Option Addr) (c1z : Nat) (a1 : List Int) (a2 : Int) (M : Mem) (w : World) (hI : Inv M w []) (hr1z : rdS (tInt .i64) M.blk A1z a1) (hl1z : a1.length ≤ c1z) (r : List Int × Int) (H : assizeref08zApply a0 a1 a2 = some r) :
    Calls Try.prog 17 #[.int .i64 a0, .slice A1z a1.length c1z, .int .i64 a2] w fun e w' => ∃ (A74 : Option Addr) (c75 : Nat), e = .returned (.tuple #[.slice A74 r.1.length c75, .int .i64 r.2]) ∧ Inv M w' [.row (tInt .i64) 2 A74 r.1.length c75 r.1] := by
  refine calls_go (updL (fun _ => undef) [(0, .int .i64 a0), (1, .slice A1z a1.length c1z), (2, .int .i64 a2)]) Try.func17 rfl (by kernel_rfl) ?_
  intro cs
  unfold assizeref08zApply at H
  refine go_seq ?_
  refine r_in ?_
  refine o_batch 0 [] [.p, .p] [(6, .slice none 0 0), (7, .int .i64 0)] [] trivial trivial (by kernel_rfl) (by kernel_rfl) (by kernel_rfl) ?_
  refine r_out (by kernel_rfl) ?_
  refine go_seq ?_
  refine r_in ?_
  refine o_batch 0 [] [.p, .p] [(10, .int .i64 a0), (11, .slice A1z a1.length c1z)] [] trivial trivial (by kernel_rfl) (by kernel_rfl) (by kernel_rfl) ?_
  replace H := bind_some H
  obtain ⟨y3, hy4, H⟩ := H
  refine o_eff 2 _ rfl (by kernel_rfl) ?_
  refine e_callf _ _ _ 22 #[] #[] #[.int .i64 a0, .slice A1z a1.length c1z] #[.int .i64 a0, .slice A1z a1.length c1z] rfl (by kernel_rfl) (by kernel_rfl) (by kernel_rfl) (enter22 _) (assizeref08zCheck_calls a0 A1z c1z a1 (memOf _) _ (Inv.start _) (hI.rd hr1z) hl1z _ hy4) ?_
  rintro _ _ ⟨rfl, hI'⟩
  replace hI := hI.call0 hI'
  clear hI'
  refine ⟨_, rfl, ?_⟩
  refine o_batch 3 [] [.p] [(8, .int .i64 y3)] [] trivial trivial (by kernel_rfl) (by kernel_rfl) (by kernel_rfl) ?_
  refine r_out (by kernel_rfl) ?_
  refine go_seq ?_
  refine go_seq ?_
  refine r_in ?_
  refine o_batch 0 [] [.p, .p] [(13, .int .i64 y3), (14, .bool (y3 != 0))] [] trivial trivial (by kernel_rfl) (by kernel_rfl) (by kernel_rfl) ?_
  refine r_out (by kernel_rfl) ?_
  replace H := cond_some H
  rcases H with ⟨hc6, H⟩ | ⟨hc6, H⟩
  · refine go_then' (t := (y3 != 0)) (by kernel_rfl) hc6 ?_
    refine go_seq ?_
    refine r_in ?_
    refine o_batch 0 [] [.p, .p, .p] [(15, .int .i64 y3), (6, .slice none 0 0), (7, .int .i64 y3)] [] trivial trivial (by kernel_rfl) (by kernel_rfl) (by kernel_rfl) ?_
    refine r_out (by kernel_rfl) ?_
    replace H := Option.some.inj H
    subst H
    exact go_return (.tuple #[.slice none 0 0, .int .i64 y3]) Try.func17 (by kernel_rfl) ⟨none, 0, rfl, (hI.nilrow (tInt .i64) 2)⟩
  · refine go_else' (t := (y3 != 0)) (by kernel_rfl) hc6 ?_
    refine go_skip ?_
    refine go_seq ?_
    refine r_in ?_
    refine o_batch 0 [] [.p] [(9, .slice none 0 0)] [] trivial trivial (by kernel_rfl) (by kernel_rfl) (by kernel_rfl) ?_
    refine r_out (by kernel_rfl) ?_
    refine go_seq ?_
    refine go_seq ?_
    refine r_in ?_
    refine o_batch 0 [] [.p] [(16, .int .i64 a0)] [] trivial trivial (by kernel_rfl) (by kernel_rfl) (by kernel_rfl) ?_
    refine r_out (by kernel_rfl) ?_
    refine go_block_join (o := r) (fun l48 f w => ∃ (j : Nat → Value) (A49 : Option Addr) (c50 : Nat), f = updL j [(9, .slice A49 l48.length c50)] ∧ Inv M w [.row (tInt .i64) 2 A49 l48.length c50 l48]) (fun l48 => assizeref08zApply.j1 l48) ?_ (fun hJ51 => ?_)
    · clear H hI
      rintro l48 _ _ ⟨_, A49, c50, rfl, hI⟩ H
      refine go_seq ?_
      refine go_seq ?_
      refine r_in ?_
      refine o_batch 0 [] [.p, .p, .p] [(40, .slice A49 l48.length c50), (41, .int .i64 (l48.length : Int)), (42, .bool (decide ((l48.length : Int) > 64)))] [] trivial trivial (by kernel_rfl) (by kernel_rfl) (by kernel_rfl) ?_
      refine r_out (by kernel_rfl) ?_
      replace H := cond_some H
      rcases H with ⟨hc53, H⟩ | ⟨hc53, H⟩
      · refine go_then' (t := decide ((l48.length : Int) > 64)) (by kernel_rfl) hc53 ?_
        refine go_seq ?_
        refine r_in ?_
        refine o_batch 0 [] [.p, .p] [(6, .slice none 0 0), (7, .int .i64 2)] [] trivial trivial (by kernel_rfl) (by kernel_rfl) (by kernel_rfl) ?_
        refine r_out (by kernel_rfl) ?_
        replace H := Option.some.inj H
        subst H
        exact go_return (.tuple #[.slice none 0 0, .int .i64 2]) Try.func17 (by kernel_rfl) ⟨none, 0, rfl, (hI.nilrow (tInt .i64) 2).pick [1] (by decide) rfl⟩
      · refine go_else' (t := decide ((l48.length : Int) > 64)) (by kernel_rfl) hc53 ?_
        refine go_skip ?_
        refine go_seq ?_
        refine r_in ?_
        refine o_batch 0 [] [.p, .p, .p] [(43, .slice A49 l48.length c50), (6, .slice A49 l48.length c50), (7, .int .i64 0)] [] trivial trivial (by kernel_rfl) (by kernel_rfl) (by kernel_rfl) ?_
        refine r_out (by kernel_rfl) ?_
        replace H := Option.some.inj H
        subst H
        exact go_return (.tuple #[.slice A49 l48.length c50, .int .i64 0]) Try.func17 (by kernel_rfl) ⟨A49, c50, rfl, hI⟩
    · refine go_seq ?_
      refine r_in ?_
      refine o_batch 0 [] [.p, .p] [(24, .bool (a0 == 1)), (23, .bool (a0 == 1))] [] trivial trivial (by kernel_rfl) (by kernel_rfl) (by kernel_rfl) ?_
      refine r_out (by kernel_rfl) ?_
      replace H := cond_some H
      rcases H with ⟨hc54, H⟩ | ⟨hc54, H⟩
      · refine go_then' (t := (a0 == 1)) (by kernel_rfl) hc54 ?_
        refine r_in ?_
        refine o_batch 0 [] [.p] [(25, .int .i64 a2)] [] trivial trivial (by kernel_rfl) (by kernel_rfl) (by kernel_rfl) ?_
        refine o_eff 1 _ rfl (by kernel_rfl) ?_
        refine e_parts 22 2 1 _ _ _ #[.int .i64 a2] [.int .i64 a2] rfl rfl rfl rfl (by kernel_rfl) (by kernel_rfl) (by kernel_rfl) (by kernel_rfl) hI ?_
        clear hI
        intro b55 _ hI
        replace hI := hI.asrow (k := (tInt .i64)) (xs := ([a2] : List Int)) (cs := [.int .i64 a2]) (R := []) (L' := []) 1 0 [] [] (by decide) rfl (mks_cons (mk_flat (k := (tInt .i64)) a2 [.int .i64 a2] rfl) mks_nil) rfl rfl (by kernel_rfl)
        refine o_batch 2 [] [.p] [(9, .slice (some ⟨b55, 0, none⟩) 1 1)] [] trivial trivial (by kernel_rfl) (by kernel_rfl) (by kernel_rfl) ?_
        refine r_out (by kernel_rfl) ?_
        refine go_inBlock ?_
        refine go_is 9 (.slice (some ⟨b55, 0, none⟩) 1 1) (.slice (some ⟨b55, 0, none⟩) (([a2] : List Int).length) 1) (by kernel_rfl) (by first | rfl | simp only [List.length_set, List.length_replicate, List.length_nil]) ?_
        replace hI := hI.renum 0 rfl
        exact hJ51 ([a2] : List Int) _ _ ⟨_, (some ⟨b55, 0, none⟩), 1, at_slots _ (by kernel_rfl), hI⟩ H
      · refine go_else' (t := (a0 == 1)) (by kernel_rfl) hc54 ?_
        refine go_seq ?_
        refine r_in ?_
        refine o_batch 0 [] [.p, .p] [(28, .bool (a0 == 2)), (27, .bool (a0 == 2))] [] trivial trivial (by kernel_rfl) (by kernel_rfl) (by kernel_rfl) ?_
        refine r_out (by kernel_rfl) ?_
        replace H := cond_some H
        rcases H with ⟨hc56, H⟩ | ⟨hc56, H⟩
        · refine go_then' (t := (a0 == 2)) (by kernel_rfl) hc56 ?_
          refine r_in ?_
          refine o_batch 0 [] [.p, .p] [(29, .slice none 0 0), (30, .slice A1z a1.length c1z)] [] trivial trivial (by kernel_rfl) (by kernel_rfl) (by kernel_rfl) ?_
          replace H := must_some H
          obtain ⟨g57, H⟩ := H
          replace hI := hI.nilrow (tInt .i64) 2
          refine o_eff 2 _ rfl (by kernel_rfl) ?_
          refine e_append_rd (kt := (tInt .i64)) 22 0 2 _ _ _ _ none A1z 0 0 ([] : List Int) a1 c1z 0 [] [] rfl (by kernel_rfl) (by kernel_rfl) rfl rfl rfl rfl rfl (by kernel_rfl) hI (by decide) rfl (hI.rd hr1z) g57 ?_
          clear hI
          intro A58 c59 _ hI
          refine o_batch 3 [] [.p] [(32, .int .i64 a2)] [] trivial trivial (by kernel_rfl) (by kernel_rfl) (by kernel_rfl) ?_
          refine o_eff 4 _ rfl (by kernel_rfl) ?_
          refine e_parts 22 2 1 _ _ _ #[.int .i64 a2] [.int .i64 a2] rfl rfl rfl rfl (by kernel_rfl) (by kernel_rfl) (by kernel_rfl) (by kernel_rfl) hI ?_
          clear hI
          intro b60 _ hI
          replace H := must_some H
          obtain ⟨g61, H⟩ := H
          refine o_eff 5 _ rfl (by kernel_rfl) ?_
          refine e_append (tInt .i64) 22 0 2 _ _ _ _ A58 ((([] : List Int) ++ a1).length) c59 (([] : List Int) ++ a1) ([a2] : List Int) b60 0 1 1 [.int .i64 a2] 0 [] [1] [] [.blk b60 2 [.int .i64 a2]] rfl (by kernel_rfl) (by kernel_rfl) rfl rfl rfl rfl rfl (by kernel_rfl) hI (by decide) rfl rfl rfl (hI.grp 1 rfl) g61 (mks_cons (mk_flat (k := (tInt .i64)) a2 [.int .i64 a2] rfl) mks_nil) ?_
          clear hI
          intro A62 c63 _ hI
          replace hI := hI.pick (L' := [.row (tInt .i64) 2 A62 (((([] : List Int) ++ a1) ++ ([a2] : List Int)).length) c63 ((([] : List Int) ++ a1) ++ ([a2] : List Int))]) [0] (by decide) rfl
          refine o_batch 6 [] [.p] [(9, .slice A62 (((([] : List Int) ++ a1) ++ ([a2] : List Int)).length) c63)] [] trivial trivial (by kernel_rfl) (by kernel_rfl) (by kernel_rfl) ?_
          refine r_out (by kernel_rfl) ?_
          refine go_inBlock ?_
          exact hJ51 ((([] : List Int) ++ a1) ++ ([a2] : List Int)) _ _ ⟨_, A62, c63, at_slots _ (by kernel_rfl), hI⟩ H
        · refine go_else' (t := (a0 == 2)) (by kernel_rfl) hc56 ?_
          refine go_seq ?_
          refine r_in ?_
          refine o_batch 0 [] [.p, .p] [(36, .bool (a0 == 3)), (35, .bool (a0 == 3))] [] trivial trivial (by kernel_rfl) (by kernel_rfl) (by kernel_rfl) ?_
          refine r_out (by kernel_rfl) ?_
          replace H := cond_some H
          rcases H with ⟨hc64, H⟩ | ⟨hc64, H⟩
          · refine go_then' (t := (a0 == 3)) (by kernel_rfl) hc64 ?_
            refine r_in ?_
            refine o_batch 0 [] [.p, .p] [(37, .slice A1z a1.length c1z), (38, .int .i64 a2)] [] trivial trivial (by kernel_rfl) (by kernel_rfl) (by kernel_rfl) ?_
            replace H := bind_some H
            obtain ⟨y65, hy66, H⟩ := H
            refine o_eff 2 _ rfl (by kernel_rfl) ?_
            refine e_callf _ _ _ 39 #[] #[] #[.slice A1z a1.length c1z, .int .i64 a2] #[.slice A1z a1.length c1z, .int .i64 a2] rfl (by kernel_rfl) (by kernel_rfl) (by kernel_rfl) (enter39 _) (assizeref08zinclude_calls A1z c1z a1 a2 (memOf _) _ (Inv.start _) (hI.rd hr1z) hl1z _ hy66) ?_
            rintro _ _ ⟨A67, c68, rfl, hI'⟩
            replace hI := hI.call0 hI'
            clear hI'
            refine ⟨_, rfl, ?_⟩
            refine o_batch 3 [] [.p] [(9, .slice A67 y65.length c68)] [] trivial trivial (by kernel_rfl) (by kernel_rfl) (by kernel_rfl) ?_
            refine r_out (by kernel_rfl) ?_
            refine go_inBlock ?_
            exact hJ51 y65 _ _ ⟨_, A67, c68, at_slots _ (by kernel_rfl), hI⟩ H
          · refine go_else' (t := (a0 == 3)) (by kernel_rfl) hc64 ?_
            refine r_in ?_
            replace H := must_some H
            obtain ⟨g69, H⟩ := H
            obtain ⟨b70, q71, rfl, _⟩ := rdS.fopen hr1z rfl g69
            refine o_batch 0 [(b70, q71 + (0 : Int).toNat * 1, [.int .i64 (idx a1 (0 : Int))])] [.p, .x, .l 0 0, .p, .p] [(17, .slice (some ⟨b70, q71, none⟩) a1.length c1z), (18, .pointer (some ⟨b70, q71 + (0 : Int).toNat * 1, none⟩)), (19, .int .i64 (idx a1 (0 : Int))), (20, .int .i64 a2), (21, .int .i64 (w64 ((idx a1 (0 : Int)) + a2)))] [(0, a1.length)] ⟨(hI.lies (rdS.flook hr1z rfl g69)), trivial⟩ ⟨g69, trivial⟩ (by kernel_rfl) (by kernel_rfl) (by kernel_rfl) ?_
            refine o_eff 5 _ rfl (by kernel_rfl) ?_
            refine e_parts 22 2 1 _ _ _ #[.int .i64 (w64 ((idx a1 (0 : Int)) + a2))] [.int .i64 (w64 ((idx a1 (0 : Int)) + a2))] rfl rfl rfl rfl (by kernel_rfl) (by kernel_rfl) (by kernel_rfl) (by kernel_rfl) hI ?_
            clear hI
            intro b72 _ hI
            replace hI := hI.asrow (k := (tInt .i64)) (xs := ([w64 ((idx a1 (0 : Int)) + a2)] : List Int)) (cs := [.int .i64 (w64 ((idx a1 (0 : Int)) + a2))]) (R := []) (L' := []) 1 0 [] [] (by decide) rfl (mks_cons (mk_flat (k := (tInt .i64)) (w64 ((idx a1 (0 : Int)) + a2)) [.int .i64 (w64 ((idx a1 (0 : Int)) + a2))] rfl) mks_nil) rfl rfl (by kernel_rfl)
            refine o_batch 6 [] [.p] [(9, .slice (some ⟨b72, 0, none⟩) 1 1)] [] trivial trivial (by kernel_rfl) (by kernel_rfl) (by kernel_rfl) ?_
            refine r_out (by kernel_rfl) ?_
            refine go_inBlock ?_
            refine go_is 9 (.slice (some ⟨b72, 0, none⟩) 1 1) (.slice (some ⟨b72, 0, none⟩) (([w64 ((idx a1 (0 : Int)) + a2)] : List Int).length) 1) (by kernel_rfl) (by first | rfl | simp only [List.length_set, List.length_replicate, List.length_nil]) ?_
            replace hI := hI.renum 0 rfl
            exact hJ51 ([w64 ((idx a1 (0 : Int)) + a2)] : List Int) _ _ ⟨_, (some ⟨b72, 0, none⟩), 1, at_slots _ (by kernel_rfl), hI⟩ H

/-! ### assizeref03.SameVals -/
theorem enter18 (a : Array Value) : Sem.pureRun Try.prog (callFunc 18 a) = some (.enter 18 a) := by kernel_rfl
theorem assizeref03zSameVals_calls (A0z : Option Addr) (c0z : Nat) (a0 : List Int) (A1z : Option Addr) (c1z : Nat) (a1 : List Int) (M : Mem) (w : World) (hI : Inv M w []) (hr0z : rdS (tInt .i64) M.blk A0z a0) (hl0z : a0.length ≤ c0z) (hr1z : rdS (tInt .i64) M.blk A1z a1) (hl1z : a1.length ≤ c1z) (r : Bool) (H : assizeref03zSameVals a0 a1 = some r) :
    Calls Try.prog 18 #[.slice A0z a0.length c0z, .slice A1z a1.length c1z] w fun e w' => e = .returned (.bool r) ∧ Inv M w' [] := by
  refine calls_go (updL (fun _ => undef) [(0, .slice A0z a0.length c0z), (1, .slice A1z a1.length c1z)]) Try.func18 rfl (by kernel_rfl) ?_
  intro cs
  unfold assizeref03zSameVals at H
  refine go_seq ?_
  refine r_in ?_
  refine o_batch 0 [] [.p] [(4, .bool false)] [] trivial trivial (by kernel_rfl) (by kernel_rfl) (by kernel_rfl) ?_
  refine r_out (by kernel_rfl) ?_
  refine go_seq ?_
  refine go_seq ?_
  refine r_in ?_
  refine o_batch 0 [] [.p, .p, .p, .p, .p] [(6, .slice A0z a0.length c0z), (7, .int .i64 (a0.length : Int)), (8, .slice A1z a1.length c1z), (9, .int .i64 (a1.length : Int)), (10, .bool ((a0.length : Int) != (a1.length : Int)))] [] trivial trivial (by kernel_rfl) (by kernel_rfl) (by kernel_rfl) ?_
  refine r_out (by kernel_rfl) ?_
  replace H := cond_some H
  rcases H with ⟨hc2, H⟩ | ⟨hc2, H⟩
  · refine go_then' (t := ((a0.length : Int) != (a1.length : Int))) (by kernel_rfl) hc2 ?_
    refine go_seq ?_
    refine r_in ?_
    refine o_batch 0 [] [.p] [(4, .bool false)] [] trivial trivial (by kernel_rfl) (by kernel_rfl) (by kernel_rfl) ?_
    refine r_out (by kernel_rfl) ?_
    replace H := Option.some.inj H
    subst H
    exact go_return (.bool false) Try.func18 (by kernel_rfl) ⟨rfl, hI⟩
  · refine go_else' (t := ((a0.length : Int) != (a1.length : Int))) (by kernel_rfl) hc2 ?_
    refine go_skip ?_
    refine go_seq ?_
    refine go_seq ?_
    refine r_in ?_
    refine o_batch 0 [] [.p] [(5, .int .i64 0)] [] trivial trivial (by kernel_rfl) (by kernel_rfl) (by kernel_rfl) ?_
    refine r_out (by kernel_rfl) ?_
    refine go_block ?_
    refine go_iter (assizeref03zSameVals.s1 a0 a1) (fun x84 f w => ∃ (j : Nat → Value), f = updL j [(0, .slice A0z a0.length c0z), (1, .slice A1z a1.length c1z), (5, .int .i64 x84)] ∧ Inv M w []) H ⟨_, at_slots _ (by kernel_rfl), hI⟩ ?_
    clear H hI
    rintro x84 _ _ o1 H ⟨_, rfl, hI⟩ hin1 hout1
    refine go_seq ?_
    refine go_seq ?_
    refine r_in ?_
    refine o_batch 0 [] [.p, .p, .p, .p] [(11, .int .i64 x84), (12, .slice A0z a0.length c0z), (13, .int .i64 (a0.length : Int)), (14, .bool (decide (x84 < (a0.length : Int))))] [] trivial trivial (by kernel_rfl) (by kernel_rfl) (by kernel_rfl) ?_
    refine r_out (by kernel_rfl) ?_
    replace H := cond_some H
    rcases H with ⟨hc86, H⟩ | ⟨hc86, H⟩
    · refine go_then' (t := decide (x84 < (a0.length : Int))) (by kernel_rfl) hc86 ?_
      refine go_skip ?_
      refine go_seq ?_
      refine go_block ?_
      refine go_seq ?_
      replace H := must_some H
      obtain ⟨g107, H⟩ := H
      obtain ⟨b108, q109, rfl, _⟩ := rdS.fopen hr0z rfl g107
      replace H := must_some H
      obtain ⟨g110, H⟩ := H
      obtain ⟨b111, q112, rfl, _⟩ := rdS.fopen hr1z rfl g110
      refine d_still [(b108, q109 + x84.toNat * 1, [.int .i64 (idx a0 x84)]), (b111, q112 + x84.toNat * 1, [.int .i64 (idx a1 x84)])] [.p, .p, .x, .l 0 0, .p, .p, .x, .l 1 0, .p] [(17, .slice (some ⟨b108, q109, none⟩) a0.length c0z), (18, .int .i64 x84), (19, .pointer (some ⟨b108, q109 + x84.toNat * 1, none⟩)), (20, .int .i64 (idx a0 x84)), (21, .slice (some ⟨b111, q112, none⟩) a1.length c1z), (22, .int .i64 x84), (23, .pointer (some ⟨b111, q112 + x84.toNat * 1, none⟩)), (24, .int .i64 (idx a1 x84)), (25, .bool (idx a0 x84 != idx a1 x84))] [(x84, a0.length), (x84, a1.length)] (by kernel_rfl) (by kernel_rfl) rfl ⟨(hI.lies (rdS.flook hr0z rfl g107)), (hI.lies (rdS.flook hr1z rfl g110)), trivial⟩ ⟨g107, g110, trivial⟩ (by kernel_rfl) (by kernel_rfl) (by kernel_rfl) hI ?_
      clear hI
      intro _ hI
      replace H := cond_some H
      rcases H with ⟨hc113, H⟩ | ⟨hc113, H⟩
      · refine go_then' (t := (idx a0 x84 != idx a1 x84)) (by kernel_rfl) hc113 ?_
        refine go_seq ?_
        refine r_in ?_
        refine o_batch 0 [] [.p] [(4, .bool false)] [] trivial trivial (by kernel_rfl) (by kernel_rfl) (by kernel_rfl) ?_
        refine r_out (by kernel_rfl) ?_
        replace H := out_some H
        obtain ⟨_, H, he1⟩ := H
        have he := (hout1 _ he1).symm
        subst he
        replace H := Option.some.inj H
        subst H
        exact go_return (.bool false) Try.func18 (by kernel_rfl) ⟨rfl, hI⟩
      · refine go_else' (t := (idx a0 x84 != idx a1 x84)) (by kernel_rfl) hc113 ?_
        refine go_skip ?_
        refine go_inBlock ?_
        refine r_in ?_
        refine o_batch 0 [] [.p, .p, .p] [(15, .int .i64 x84), (16, .int .i64 (w64 (x84 + 1))), (5, .int .i64 (w64 (x84 + 1)))] [] trivial trivial (by kernel_rfl) (by kernel_rfl) (by kernel_rfl) ?_
        refine r_out (by kernel_rfl) ?_
        exact hin1 _ (Option.some.inj H).symm _ _ ⟨_, at_slots _ (by kernel_rfl), hI⟩
    · refine go_else' (t := decide (x84 < (a0.length : Int))) (by kernel_rfl) hc86 ?_
      refine go_exit rfl ?_
      refine go_seq ?_
      refine r_in ?_
      refine o_batch 0 [] [.p] [(4, .bool true)] [] trivial trivial (by kernel_rfl) (by kernel_rfl) (by kernel_rfl) ?_
      refine r_out (by kernel_rfl) ?_
      replace H := out_some H
      obtain ⟨_, H, he1⟩ := H
      have he := (hout1 _ he1).symm
      subst he
      replace H := Option.some.inj H
      subst H
      exact go_return (.bool true) Try.func18 (by kernel_rfl) ⟨rfl, hI⟩

/-! ### assizelaw08.StateKeeps -/
theorem enter3 (a : Array Value) : Sem.pureRun Try.prog (callFunc 3 a) = some (.enter 3 a) := by kernel_rfl
theorem assizelaw08zStateKeeps_calls (a0 : Int) (A1z : Option Addr) (c1z : Nat) (a1 : List Int) (a2 : Int) (M : Mem) (w : World) (hI : Inv M w []) (hr1z : rdS (tInt .i64) M.blk A1z a1) (hl1z : a1.length ≤ c1z) (r : Bool) (H : assizelaw08zStateKeeps a0 a1 a2 = some r) :
    Calls Try.prog 3 #[.int .i64 a0, .slice A1z a1.length c1z, .int .i64 a2] w fun e w' => e = .returned (.bool r) ∧ Inv M w' [] := by
  refine calls_go (updL (fun _ => undef) [(0, .int .i64 a0), (1, .slice A1z a1.length c1z), (2, .int .i64 a2)]) Try.func3 rfl (by kernel_rfl) ?_
  intro cs
  unfold assizelaw08zStateKeeps at H
  refine go_seq ?_
  refine r_in ?_
  refine o_batch 0 [] [.p] [(6, .bool false)] [] trivial trivial (by kernel_rfl) (by kernel_rfl) (by kernel_rfl) ?_
  refine r_out (by kernel_rfl) ?_
  refine go_seq ?_
  refine go_seq ?_
  refine r_in ?_
  replace H := bind_some H
  obtain ⟨y6, hy7, H⟩ := H
  refine o_eff 0 _ rfl (by kernel_rfl) ?_
  refine e_callf _ _ _ 13 #[] #[] #[] #[] rfl (by kernel_rfl) (by kernel_rfl) (by kernel_rfl) (enter13 _) (assizelaw08zalive_calls (memOf _) _ (Inv.start _) _ hy7) ?_
  rintro _ _ ⟨rfl, hI'⟩
  replace hI := hI.call0 hI'
  clear hI'
  refine ⟨_, rfl, ?_⟩
  refine o_batch 1 [] [.p] [(20, .bool (!y6))] [] trivial trivial (by kernel_rfl) (by kernel_rfl) (by kernel_rfl) ?_
  refine r_out (by kernel_rfl) ?_
  replace H := cond_some H
  rcases H with ⟨hc8, H⟩ | ⟨hc8, H⟩
  · refine go_then' (t := !y6) (by kernel_rfl) hc8 ?_
    refine go_seq ?_
    refine r_in ?_
    refine o_batch 0 [] [.p] [(6, .bool false)] [] trivial trivial (by kernel_rfl) (by kernel_rfl) (by kernel_rfl) ?_
    refine r_out (by kernel_rfl) ?_
    replace H := Option.some.inj H
    subst H
    exact go_return (.bool false) Try.func3 (by kernel_rfl) ⟨rfl, hI⟩
  · refine go_else' (t := !y6) (by kernel_rfl) hc8 ?_
    refine go_skip ?_
    refine go_seq ?_
    refine r_in ?_
    refine o_batch 0 [] [.p] [(21, .slice A1z a1.length c1z)] [] trivial trivial (by kernel_rfl) (by kernel_rfl) (by kernel_rfl) ?_
    replace H := bind_some H
    obtain ⟨y17, hy18, H⟩ := H
    refine o_eff 1 _ rfl (by kernel_rfl) ?_
    refine e_callf _ _ _ 14 #[] #[] #[.slice A1z a1.length c1z] #[.slice A1z a1.length c1z] rfl (by kernel_rfl) (by kernel_rfl) (by kernel_rfl) (enter14 _) (assizelaw08zcopied_calls A1z c1z a1 (memOf _) _ (Inv.start _) (hI.rd hr1z) hl1z _ hy18) ?_
    rintro _ _ ⟨A19, c20, rfl, hI'⟩
    replace hI := hI.call0 hI'
    clear hI'
    refine ⟨_, rfl, ?_⟩
    refine o_eff 2 _ rfl (by kernel_rfl) ?_
    refine e_parts 22 2 2 _ _ _ #[.int .i64 7, .int .i64 8] [.int .i64 7, .int .i64 8] rfl rfl rfl rfl (by kernel_rfl) (by kernel_rfl) (by kernel_rfl) (by kernel_rfl) hI ?_
    clear hI
    intro b21 _ hI
    replace H := must_some H
    obtain ⟨g22, H⟩ := H
    refine o_eff 3 _ rfl (by kernel_rfl) ?_
    refine e_append (tInt .i64) 22 0 2 _ _ _ _ A19 y17.length c20 y17 ([7, 8] : List Int) b21 0 2 2 [.int .i64 7, .int .i64 8] 0 [] [1] [] [.blk b21 2 [.int .i64 7, .int .i64 8]] rfl (by kernel_rfl) (by kernel_rfl) rfl rfl rfl rfl rfl (by kernel_rfl) hI (by decide) rfl rfl rfl (hI.grp 1 rfl) g22 (mks_cons (mk_flat (k := (tInt .i64)) 7 [.int .i64 7] rfl) (mks_cons (mk_flat (k := (tInt .i64)) 8 [.int .i64 8] rfl) mks_nil)) ?_
    clear hI
    intro A23 c24 _ hI
    replace hI := hI.pick (L' := [.row (tInt .i64) 2 A23 ((y17 ++ ([7, 8] : List Int)).length) c24 (y17 ++ ([7, 8] : List Int))]) [0] (by decide) rfl
    refine o_batch 4 [] [.p] [(7, .slice A23 ((y17 ++ ([7, 8] : List Int)).length) c24)] [] trivial trivial (by kernel_rfl) (by kernel_rfl) (by kernel_rfl) ?_
    refine r_out (by kernel_rfl) ?_
    refine go_seq ?_
    refine r_in ?_
    refine o_batch 0 [] [.p, .p, .p] [(25, .slice A23 ((y17 ++ ([7, 8] : List Int)).length) c24), (26, .slice A1z a1.length c1z), (27, .int .i64 (a1.length : Int))] [] trivial trivial (by kernel_rfl) (by kernel_rfl) (by kernel_rfl) ?_
    replace H := must_some H
    obtain ⟨g30, H⟩ := H
    refine o_eff 3 _ rfl (by kernel_rfl) ?_
    refine e_slice_view (tInt .i64) 22 2 _ _ _ _ A23 c24 (y17 ++ ([7, 8] : List Int)) .i64 .i64 (0 : Int) (a1.length : Int) rfl (by kernel_rfl) (by kernel_rfl) (by kernel_rfl) rfl rfl rfl (hI.rowle 0 rfl) g30 ?_
    intro A31 c32 hr33 hl34
    refine o_batch 4 [] [.p] [(8, .slice A31 ((subl (y17 ++ ([7, 8] : List Int)) (0 : Int) (a1.length : Int)).length) c32)] [] trivial trivial (by kernel_rfl) (by kernel_rfl) (by kernel_rfl) ?_
    refine r_out (by kernel_rfl) ?_
    refine go_seq ?_
    refine r_in ?_
    refine o_batch 0 [] [.p, .p, .p] [(30, .int .i64 a0), (31, .slice A31 ((subl (y17 ++ ([7, 8] : List Int)) (0 : Int) (a1.length : Int)).length) c32), (32, .int .i64 a2)] [] trivial trivial (by kernel_rfl) (by kernel_rfl) (by kernel_rfl) ?_
    replace H := bind_some H
    obtain ⟨y39, hy40, H⟩ := H
    refine o_eff 3 _ rfl (by kernel_rfl) ?_
    refine e_callf _ _ _ 15 #[] #[] #[.int .i64 a0, .slice A31 ((subl (y17 ++ ([7, 8] : List Int)) (0 : Int) (a1.length : Int)).length) c32, .int .i64 a2] #[.int .i64 a0, .slice A31 ((subl (y17 ++ ([7, 8] : List Int)) (0 : Int) (a1.length : Int)).length) c32, .int .i64 a2] rfl (by kernel_rfl) (by kernel_rfl) (by kernel_rfl) (enter15 _) (state_Apply_calls a0 A31 c32 (subl (y17 ++ ([7, 8] : List Int)) (0 : Int) (a1.length : Int)) a2 (memOf _) _ (Inv.start _) (hr33 _ (hI.row 0 rfl)) hl34 _ hy40) ?_
    rintro _ _ ⟨A41, c42, rfl, hI'⟩
    replace hI := hI.call0 hI'
    clear hI'
    refine ⟨_, rfl, ?_⟩
    refine o_batch 4 [] [.p, .p, .p, .p, .p] [(29, .tuple #[.slice A41 y39.1.length c42, .int .i64 y39.2]), (34, .slice A41 y39.1.length c42), (35, .int .i64 y39.2), (9, .slice A41 y39.1.length c42), (10, .int .i64 y39.2)] [] trivial trivial (by kernel_rfl) (by kernel_rfl) (by kernel_rfl) ?_
    refine r_out (by kernel_rfl) ?_
    refine go_seq ?_
    refine r_in ?_
    refine o_batch 0 [] [.p, .p, .p] [(37, .int .i64 a0), (38, .slice A31 ((subl (y17 ++ ([7, 8] : List Int)) (0 : Int) (a1.length : Int)).length) c32), (39, .int .i64 a2)] [] trivial trivial (by kernel_rfl) (by kernel_rfl) (by kernel_rfl) ?_
    refine o_eff 3 _ rfl (by kernel_rfl) ?_
    refine e_parts 22 2 1 _ _ _ #[.int .i64 a2] [.int .i64 a2] rfl rfl rfl rfl (by kernel_rfl) (by kernel_rfl) (by kernel_rfl) (by kernel_rfl) hI ?_
    clear hI
    intro b48 _ hI
    replace hI := hI.asrow (k := (tInt .i64)) (xs := ([a2] : List Int)) (cs := [.int .i64 a2]) (R := []) (L' := [.row (tInt .i64) 2 A23 ((y17 ++ ([7, 8] : List Int)).length) c24 (y17 ++ ([7, 8] : List Int)), .row (tInt .i64) 2 A41 y39.1.length c42 y39.1]) 1 2 [] [0, 1] (by decide) rfl (mks_cons (mk_flat (k := (tInt .i64)) a2 [.int .i64 a2] rfl) mks_nil) rfl rfl (by kernel_rfl)
    replace H := bind_some H
    obtain ⟨y49, hy50, H⟩ := H
    refine o_is 40 (.slice (some ⟨b48, 0, none⟩) 1 1) (.slice (some ⟨b48, 0, none⟩) (([a2] : List Int).length) 1) (by kernel_rfl) (by first | rfl | simp only [List.length_set, List.length_replicate, List.length_nil]) ?_
    refine o_is 40 (.slice (some ⟨b48, 0, none⟩) 1 1) (.slice (some ⟨b48, 0, none⟩) (([a2] : List Int).length) 1) (by kernel_rfl) (by first | rfl | simp only [List.length_set, List.length_replicate, List.length_nil]) ?_
    replace hI := hI.renum 0 rfl
    refine o_eff 4 _ rfl (by kernel_rfl) ?_
    refine e_callf _ _ _ 16 #[] #[] #[.int .i64 a0, .slice A31 ((subl (y17 ++ ([7, 8] : List Int)) (0 : Int) (a1.length : Int)).length) c32, .slice (some ⟨b48, 0, none⟩) (([a2] : List Int).length) 1] #[.int .i64 a0, .slice A31 ((subl (y17 ++ ([7, 8] : List Int)) (0 : Int) (a1.length : Int)).length) c32, .slice (some ⟨b48, 0, none⟩) (([a2] : List Int).length) 1] rfl (by kernel_rfl) (by kernel_rfl) (by kernel_rfl) (enter16 _) (state_Before_calls a0 A31 c32 (subl (y17 ++ ([7, 8] : List Int)) (0 : Int) (a1.length : Int)) (some ⟨b48, 0, none⟩) 1 ([a2] : List Int) (memOf _) _ (Inv.start _) (hr33 _ (hI.row 1 rfl)) hl34 (hI.row 0 rfl) (hI.rowle 0 rfl) _ hy50) ?_
    rintro _ _ ⟨A51, c52, rfl, hI'⟩
    replace hI := hI.call0 hI'
    clear hI'
    refine ⟨_, rfl, ?_⟩
    refine o_batch 5 [] [.p, .p, .p, .p, .p] [(36, .tuple #[.slice A51 y49.1.length c52, .bool y49.2]), (42, .slice A51 y49.1.length c52), (43, .bool y49.2), (11, .slice A51 y49.1.length c52), (12, .bool y49.2)] [] trivial trivial (by kernel_rfl) (by kernel_rfl) (by kernel_rfl) ?_
    refine r_out (by kernel_rfl) ?_
    refine go_seq ?_
    refine r_in ?_
    refine o_batch 0 [] [.p, .p, .p] [(45, .int .i64 a0), (46, .slice A31 ((subl (y17 ++ ([7, 8] : List Int)) (0 : Int) (a1.length : Int)).length) c32), (47, .int .i64 a2)] [] trivial trivial (by kernel_rfl) (by kernel_rfl) (by kernel_rfl) ?_
    replace H := bind_some H
    obtain ⟨y57, hy58, H⟩ := H
    refine o_eff 3 _ rfl (by kernel_rfl) ?_
    refine e_callf _ _ _ 15 #[] #[] #[.int .i64 a0, .slice A31 ((subl (y17 ++ ([7, 8] : List Int)) (0 : Int) (a1.length : Int)).length) c32, .int .i64 a2] #[.int .i64 a0, .slice A31 ((subl (y17 ++ ([7, 8] : List Int)) (0 : Int) (a1.length : Int)).length) c32, .int .i64 a2] rfl (by kernel_rfl) (by kernel_rfl) (by kernel_rfl) (enter15 _) (state_Apply_calls a0 A31 c32 (subl (y17 ++ ([7, 8] : List Int)) (0 : Int) (a1.length : Int)) a2 (memOf _) _ (Inv.start _) (hr33 _ (hI.row 1 rfl)) hl34 _ hy58) ?_
    rintro _ _ ⟨A59, c60, rfl, hI'⟩
    replace hI := hI.call0 hI'
    clear hI'
    refine ⟨_, rfl, ?_⟩
    refine o_batch 4 [] [.p, .p, .p, .p, .p] [(44, .tuple #[.slice A59 y57.1.length c60, .int .i64 y57.2]), (49, .slice A59 y57.1.length c60), (50, .int .i64 y57.2), (13, .slice A59 y57.1.length c60), (14, .int .i64 y57.2)] [] trivial trivial (by kernel_rfl) (by kernel_rfl) (by kernel_rfl) ?_
    refine r_out (by kernel_rfl) ?_
    refine go_seq ?_
    refine r_in ?_
    refine o_batch 0 [] [.p, .p, .p] [(52, .int .i64 a0), (53, .slice A1z a1.length c1z), (54, .int .i64 a2)] [] trivial trivial (by kernel_rfl) (by kernel_rfl) (by kernel_rfl) ?_
    replace H := bind_some H
    obtain ⟨y65, hy66, H⟩ := H
    refine o_eff 3 _ rfl (by kernel_rfl) ?_
    refine e_callf _ _ _ 17 #[] #[] #[.int .i64 a0, .slice A1z a1.length c1z, .int .i64 a2] #[.int .i64 a0, .slice A1z a1.length c1z, .int .i64 a2] rfl (by kernel_rfl) (by kernel_rfl) (by kernel_rfl) (enter17 _) (assizeref08zApply_calls a0 A1z c1z a1 a2 (memOf _) _ (Inv.start _) (hI.rd hr1z) hl1z _ hy66) ?_
    rintro _ _ ⟨A67, c68, rfl, hI'⟩
    replace hI := hI.call0 hI'
    clear hI'
    refine ⟨_, rfl, ?_⟩
    refine o_batch 4 [] [.p, .p, .p, .p, .p] [(51, .tuple #[.slice A67 y65.1.length c68, .int .i64 y65.2]), (56, .slice A67 y65.1.length c68), (57, .int .i64 y65.2), (15, .slice A67 y65.1.length c68), (16, .int .i64 y65.2)] [] trivial trivial (by kernel_rfl) (by kernel_rfl) (by kernel_rfl) ?_
    refine r_out (by kernel_rfl) ?_
    refine go_seq ?_
    refine go_seq ?_
    refine r_in ?_
    refine o_batch 0 [] [.p] [(17, .int .i64 0)] [] trivial trivial (by kernel_rfl) (by kernel_rfl) (by kernel_rfl) ?_
    refine r_out (by kernel_rfl) ?_
    refine go_block ?_
    refine go_iter (assizelaw08zStateKeeps.s1 a1 y17 y49 y57 y65) (fun (l161, x164) f w => ∃ (j : Nat → Value) (A162 : Option Addr) (c163 : Nat), f = updL j [(1, .slice A1z a1.length c1z), (7, .slice A23 ((y17 ++ ([7, 8] : List Int)).length) c24), (8, .slice A31 ((subl (y17 ++ ([7, 8] : List Int)) (0 : Int) (a1.length : Int)).length) c32), (9, .slice A162 l161.length c163), (11, .slice A51 y49.1.length c52), (13, .slice A59 y57.1.length c60), (15, .slice A67 y65.1.length c68), (17, .int .i64 x164)] ∧ Inv M w [.row (tInt .i64) 2 A23 ((y17 ++ ([7, 8] : List Int)).length) c24 (y17 ++ ([7, 8] : List Int)), .row (tInt .i64) 2 A162 l161.length c163 l161, .row (tInt .i64) 2 A51 y49.1.length c52 y49.1, .row (tInt .i64) 2 A59 y57.1.length c60 y57.1, .row (tInt .i64) 2 A67 y65.1.length c68 y65.1]) H ⟨_, A41, c42, at_slots _ (by kernel_rfl), hI.pick [1, 2, 3, 4, 5] (by decide) rfl⟩ ?_
    clear H hI
    rintro ⟨l161, x164⟩ _ _ o1 H ⟨_, A162, c163, rfl, hI⟩ hin1 hout1
    refine go_seq ?_
    refine go_seq ?_
    refine r_in ?_
    refine o_batch 0 [] [.p, .p, .p, .p] [(58, .int .i64 x164), (59, .slice A162 l161.length c163), (60, .int .i64 (l161.length : Int)), (61, .bool (decide (x164 < (l161.length : Int))))] [] trivial trivial (by kernel_rfl) (by kernel_rfl) (by kernel_rfl) ?_
    refine r_out (by kernel_rfl) ?_
    replace H := cond_some H
    rcases H with ⟨hc166, H⟩ | ⟨hc166, H⟩
    · refine go_then' (t := decide (x164 < (l161.length : Int))) (by kernel_rfl) hc166 ?_
      refine go_skip ?_
      refine go_seq ?_
      refine go_block ?_
      refine r_in ?_
      replace H := must_some H
      obtain ⟨g171, H⟩ := H
      obtain ⟨b172, rfl⟩ := hI.rowAt 1 rfl g171
      refine o_batch 0 [] [.p, .p, .x] [(64, .slice (some ⟨b172, 0, none⟩) l161.length c163), (65, .int .i64 x164), (66, .pointer (some ⟨b172, 0 + x164.toNat * 1, none⟩))] [(x164, l161.length)] trivial ⟨g171, trivial⟩ (by kernel_rfl) (by kernel_rfl) (by kernel_rfl) ?_
      refine o_eff 3 _ rfl (by kernel_rfl) ?_
      refine e_put 2 _ _ 1 b172 2 l161.length c163 l161 (-77) x164 0 (.int .i64 (-77)) rfl (by kernel_rfl) (by kernel_rfl) (by kernel_rfl) (by kernel_rfl) hI rfl g171 (by kernel_rfl) (by kernel_rfl) ?_
      clear hI
      intro _ hI
      refine r_out (by kernel_rfl) ?_
      refine go_inBlock ?_
      refine r_in ?_
      refine o_batch 0 [] [.p, .p, .p] [(62, .int .i64 x164), (63, .int .i64 (w64 (x164 + 1))), (17, .int .i64 (w64 (x164 + 1)))] [] trivial trivial (by kernel_rfl) (by kernel_rfl) (by kernel_rfl) ?_
      refine r_out (by kernel_rfl) ?_
      refine go_is 9 (.slice (some ⟨b172, 0, none⟩) l161.length c163) (.slice (some ⟨b172, 0, none⟩) ((l161.set x164.toNat (-77)).length) c163) (by kernel_rfl) (by first | rfl | simp only [List.length_set, List.length_replicate, List.length_nil]) ?_
      replace hI := hI.renum 1 rfl
      exact hin1 _ (Option.some.inj H).symm _ _ ⟨_, (some ⟨b172, 0, none⟩), c163, at_slots _ (by kernel_rfl), hI⟩
    · refine go_else' (t := decide (x164 < (l161.length : Int))) (by kernel_rfl) hc166 ?_
      refine go_exit rfl ?_
      refine go_seq ?_
      refine go_seq ?_
      refine r_in ?_
      refine o_batch 0 [] [.p] [(18, .int .i64 0)] [] trivial trivial (by kernel_rfl) (by kernel_rfl) (by kernel_rfl) ?_
      refine r_out (by kernel_rfl) ?_
      refine go_block ?_
      refine go_iter (assizelaw08zStateKeeps.s2 a1 y17 y57 y65 l161) (fun (l265, x268) f w => ∃ (j : Nat → Value) (A266 : Option Addr) (c267 : Nat), f = updL j [(1, .slice A1z a1.length c1z), (7, .slice A23 ((y17 ++ ([7, 8] : List Int)).length) c24), (8, .slice A31 ((subl (y17 ++ ([7, 8] : List Int)) (0 : Int) (a1.length : Int)).length) c32), (9, .slice A162 l161.length c163), (11, .slice A266 l265.length c267), (13, .slice A59 y57.1.length c60), (15, .slice A67 y65.1.length c68), (18, .int .i64 x268)] ∧ Inv M w [.row (tInt .i64) 2 A23 ((y17 ++ ([7, 8] : List Int)).length) c24 (y17 ++ ([7, 8] : List Int)), .row (tInt .i64) 2 A162 l161.length c163 l161, .row (tInt .i64) 2 A266 l265.length c267 l265, .row (tInt .i64) 2 A59 y57.1.length c60 y57.1, .row (tInt .i64) 2 A67 y65.1.length c68 y65.1]) H ⟨_, A51, c52, at_slots _ (by kernel_rfl), hI⟩ ?_
      clear H hI
      rintro ⟨l265, x268⟩ _ _ o2 H ⟨_, A266, c267, rfl, hI⟩ hin2 hout2
      refine go_seq ?_
      refine go_seq ?_
      refine r_in ?_
      refine o_batch 0 [] [.p, .p, .p, .p] [(67, .int .i64 x268), (68, .slice A266 l265.length c267), (69, .int .i64 (l265.length : Int)), (70, .bool (decide (x268 < (l265.length : Int))))] [] trivial trivial (by kernel_rfl) (by kernel_rfl) (by kernel_rfl) ?_
      refine r_out (by kernel_rfl) ?_
      replace H := cond_some H
      rcases H with ⟨hc270, H⟩ | ⟨hc270, H⟩
      · refine go_then' (t := decide (x268 < (l265.length : Int))) (by kernel_rfl) hc270 ?_
        refine go_skip ?_
        refine go_seq ?_
        refine go_block ?_
        refine r_in ?_
        replace H := must_some H
        obtain ⟨g275, H⟩ := H
        obtain ⟨b276, rfl⟩ := hI.rowAt 2 rfl g275
        refine o_batch 0 [] [.p, .p, .x] [(73, .slice (some ⟨b276, 0, none⟩) l265.length c267), (74, .int .i64 x268), (75, .pointer (some ⟨b276, 0 + x268.toNat * 1, none⟩))] [(x268, l265.length)] trivial ⟨g275, trivial⟩ (by kernel_rfl) (by kernel_rfl) (by kernel_rfl) ?_
        refine o_eff 3 _ rfl (by kernel_rfl) ?_
        refine e_put 2 _ _ 2 b276 2 l265.length c267 l265 (-78) x268 0 (.int .i64 (-78)) rfl (by kernel_rfl) (by kernel_rfl) (by kernel_rfl) (by kernel_rfl) hI rfl g275 (by kernel_rfl) (by kernel_rfl) ?_
        clear hI
        intro _ hI
        refine r_out (by kernel_rfl) ?_
        refine go_inBlock ?_
        refine r_in ?_
        refine o_batch 0 [] [.p, .p, .p] [(71, .int .i64 x268), (72, .int .i64 (w64 (x268 + 1))), (18, .int .i64 (w64 (x268 + 1)))] [] trivial trivial (by kernel_rfl) (by kernel_rfl) (by kernel_rfl) ?_
        refine r_out (by kernel_rfl) ?_
        refine go_is 11 (.slice (some ⟨b276, 0, none⟩) l265.length c267) (.slice (some ⟨b276, 0, none⟩) ((l265.set x268.toNat (-78)).length) c267) (by kernel_rfl) (by first | rfl | simp only [List.length_set, List.length_replicate, List.length_nil]) ?_
        replace hI := hI.renum 2 rfl
        exact hin2 _ (Option.some.inj H).symm _ _ ⟨_, (some ⟨b276, 0, none⟩), c267, at_slots _ (by kernel_rfl), hI⟩
      · refine go_else' (t := decide (x268 < (l265.length : Int))) (by kernel_rfl) hc270 ?_
        refine go_exit rfl ?_
        refine go_seq ?_
        refine r_in ?_
        refine o_batch 0 [] [.p] [(76, .slice A162 l161.length c163)] [] trivial trivial (by kernel_rfl) (by kernel_rfl) (by kernel_rfl) ?_
        refine o_eff 1 _ rfl (by kernel_rfl) ?_
        refine e_parts 22 2 1 _ _ _ #[.int .i64 5] [.int .i64 5] rfl rfl rfl rfl (by kernel_rfl) (by kernel_rfl) (by kernel_rfl) (by kernel_rfl) hI ?_
        clear hI
        intro b281 _ hI
        replace H := must_some H
        obtain ⟨g282, H⟩ := H
        refine o_eff 2 _ rfl (by kernel_rfl) ?_
        refine e_append (tInt .i64) 22 0 2 _ _ _ _ A162 l161.length c163 l161 ([5] : List Int) b281 0 1 1 [.int .i64 5] 1 [] [0, 2, 3, 4, 5] [] [.row (tInt .i64) 2 A23 ((y17 ++ ([7, 8] : List Int)).length) c24 (y17 ++ ([7, 8] : List Int)), .row (tInt .i64) 2 A266 l265.length c267 l265, .row (tInt .i64) 2 A59 y57.1.length c60 y57.1, .row (tInt .i64) 2 A67 y65.1.length c68 y65.1, .blk b281 2 [.int .i64 5]] rfl (by kernel_rfl) (by kernel_rfl) rfl rfl rfl rfl rfl (by kernel_rfl) hI (by decide) rfl rfl rfl (hI.grp 5 rfl) g282 (mks_cons (mk_flat (k := (tInt .i64)) 5 [.int .i64 5] rfl) mks_nil) ?_
        clear hI
        intro A283 c284 _ hI
        replace hI := hI.pick (L' := [.row (tInt .i64) 2 A283 ((l161 ++ ([5] : List Int)).length) c284 (l161 ++ ([5] : List Int)), .row (tInt .i64) 2 A23 ((y17 ++ ([7, 8] : List Int)).length) c24 (y17 ++ ([7, 8] : List Int)), .row (tInt .i64) 2 A266 l265.length c267 l265, .row (tInt .i64) 2 A59 y57.1.length c60 y57.1, .row (tInt .i64) 2 A67 y65.1.length c68 y65.1]) [0, 1, 2, 3, 4] (by decide) rfl
        refine o_batch 3 [] [.p] [(9, .slice A283 ((l161 ++ ([5] : List Int)).length) c284)] [] trivial trivial (by kernel_rfl) (by kernel_rfl) (by kernel_rfl) ?_
        refine r_out (by kernel_rfl) ?_
        refine go_seq ?_
        refine r_in ?_
        refine o_batch 0 [] [.p] [(79, .slice A266 l265.length c267)] [] trivial trivial (by kernel_rfl) (by kernel_rfl) (by kernel_rfl) ?_
        refine o_eff 1 _ rfl (by kernel_rfl) ?_
        refine e_parts 22 2 1 _ _ _ #[.int .i64 6] [.int .i64 6] rfl rfl rfl rfl (by kernel_rfl) (by kernel_rfl) (by kernel_rfl) (by kernel_rfl) hI ?_
        clear hI
        intro b289 _ hI
        replace H := must_some H
        obtain ⟨g290, H⟩ := H
        refine o_eff 2 _ rfl (by kernel_rfl) ?_
        refine e_append (tInt .i64) 22 0 2 _ _ _ _ A266 l265.length c267 l265 ([6] : List Int) b289 0 1 1 [.int .i64 6] 2 [] [0, 1, 3, 4, 5] [] [.row (tInt .i64) 2 A283 ((l161 ++ ([5] : List Int)).length) c284 (l161 ++ ([5] : List Int)), .row (tInt .i64) 2 A23 ((y17 ++ ([7, 8] : List Int)).length) c24 (y17 ++ ([7, 8] : List Int)), .row (tInt .i64) 2 A59 y57.1.length c60 y57.1, .row (tInt .i64) 2 A67 y65.1.length c68 y65.1, .blk b289 2 [.int .i64 6]] rfl (by kernel_rfl) (by kernel_rfl) rfl rfl rfl rfl rfl (by kernel_rfl) hI (by decide) rfl rfl rfl (hI.grp 5 rfl) g290 (mks_cons (mk_flat (k := (tInt .i64)) 6 [.int .i64 6] rfl) mks_nil) ?_
        clear hI
        intro A291 c292 _ hI
        replace hI := hI.pick (L' := [.row (tInt .i64) 2 A291 ((l265 ++ ([6] : List Int)).length) c292 (l265 ++ ([6] : List Int)), .row (tInt .i64) 2 A283 ((l161 ++ ([5] : List Int)).length) c284 (l161 ++ ([5] : List Int)), .row (tInt .i64) 2 A23 ((y17 ++ ([7, 8] : List Int)).length) c24 (y17 ++ ([7, 8] : List Int)), .row (tInt .i64) 2 A59 y57.1.length c60 y57.1, .row (tInt .i64) 2 A67 y65.1.length c68 y65.1]) [0, 1, 2, 3, 4] (by decide) rfl
        refine o_batch 3 [] [.p] [(11, .slice A291 ((l265 ++ ([6] : List Int)).length) c292)] [] trivial trivial (by kernel_rfl) (by kernel_rfl) (by kernel_rfl) ?_
        refine r_out (by kernel_rfl) ?_
        refine go_seq ?_
        refine r_in ?_
        refine o_batch 0 [] [.p, .p] [(82, .slice A31 ((subl (y17 ++ ([7, 8] : List Int)) (0 : Int) (a1.length : Int)).length) c32), (83, .slice A1z a1.length c1z)] [] trivial trivial (by kernel_rfl) (by kernel_rfl) (by kernel_rfl) ?_
        replace H := bind_some H
        obtain ⟨y309, hy310, H⟩ := H
        refine o_eff 2 _ rfl (by kernel_rfl) ?_
        refine e_callf _ _ _ 18 #[] #[] #[.slice A31 ((subl (y17 ++ ([7, 8] : List Int)) (0 : Int) (a1.length : Int)).length) c32, .slice A1z a1.length c1z] #[.slice A31 ((subl (y17 ++ ([7, 8] : List Int)) (0 : Int) (a1.length : Int)).length) c32, .slice A1z a1.length c1z] rfl (by kernel_rfl) (by kernel_rfl) (by kernel_rfl) (enter18 _) (assizeref03zSameVals_calls A31 c32 (subl (y17 ++ ([7, 8] : List Int)) (0 : Int) (a1.length : Int)) A1z c1z a1 (memOf _) _ (Inv.start _) (hr33 _ (hI.row 2 rfl)) hl34 (hI.rd hr1z) hl1z _ hy310) ?_
        rintro _ _ ⟨rfl, hI'⟩
        replace hI := hI.call0 hI'
        clear hI'
        refine ⟨_, rfl, ?_⟩
        replace H := cond_some H
        rcases H with ⟨hc311, H⟩ | ⟨hc311, H⟩
        · replace H := must_some H
          obtain ⟨g312, H⟩ := H
          obtain ⟨b313, rfl⟩ := hI.rowAt 2 rfl g312
          replace H := cond_some H
          rcases H with ⟨hc314, H⟩ | ⟨hc314, H⟩
          · replace H := must_some H
            obtain ⟨g315, H⟩ := H
            replace H := cond_some H
            rcases H with ⟨hc316, H⟩ | ⟨hc316, H⟩
            · refine o_batch 3 [(b313, 0 + (a1.length : Int).toNat * 1, [.int .i64 (idx (y17 ++ ([7, 8] : List Int)) (a1.length : Int))]), (b313, 0 + (w64 ((a1.length : Int) + 1)).toNat * 1, [.int .i64 (idx (y17 ++ ([7, 8] : List Int)) (w64 ((a1.length : Int) + 1)))])] [.c true, .p, .p, .p, .x, .l 0 0, .p, .p, .c true, .p, .p, .p, .p, .x, .l 1 0, .p, .p, .c true, .p, .p] [(85, .bool true), (86, .slice (some ⟨b313, 0, none⟩) ((y17 ++ ([7, 8] : List Int)).length) c24), (87, .slice A1z a1.length c1z), (88, .int .i64 (a1.length : Int)), (89, .pointer (some ⟨b313, 0 + (a1.length : Int).toNat * 1, none⟩)), (90, .int .i64 (idx (y17 ++ ([7, 8] : List Int)) (a1.length : Int))), (91, .bool (idx (y17 ++ ([7, 8] : List Int)) (a1.length : Int) == 7)), (92, .bool (idx (y17 ++ ([7, 8] : List Int)) (a1.length : Int) == 7)), (93, .bool true), (94, .slice (some ⟨b313, 0, none⟩) ((y17 ++ ([7, 8] : List Int)).length) c24), (95, .slice A1z a1.length c1z), (96, .int .i64 (a1.length : Int)), (97, .int .i64 (w64 ((a1.length : Int) + 1))), (98, .pointer (some ⟨b313, 0 + (w64 ((a1.length : Int) + 1)).toNat * 1, none⟩)), (99, .int .i64 (idx (y17 ++ ([7, 8] : List Int)) (w64 ((a1.length : Int) + 1)))), (100, .bool (idx (y17 ++ ([7, 8] : List Int)) (w64 ((a1.length : Int) + 1)) == 8)), (101, .bool (idx (y17 ++ ([7, 8] : List Int)) (w64 ((a1.length : Int) + 1)) == 8)), (102, .bool true), (103, .slice A59 y57.1.length c60), (104, .slice A67 y65.1.length c68)] [((bif y309 == true then 0 else -1), 1), ((a1.length : Int), (y17 ++ ([7, 8] : List Int)).length), ((bif (idx (y17 ++ ([7, 8] : List Int)) (a1.length : Int) == 7) == true then 0 else -1), 1), (w64 ((a1.length : Int) + 1), (y17 ++ ([7, 8] : List Int)).length), ((bif (idx (y17 ++ ([7, 8] : List Int)) (w64 ((a1.length : Int) + 1)) == 8) == true then 0 else -1), 1)] ⟨(rdS.flook (hI.row 2 rfl) (hI.rowlen 2 rfl) g312).ok, (rdS.flook (hI.row 2 rfl) (hI.rowlen 2 rfl) g315).ok, trivial⟩ ⟨(bndEq hc311), g312, (bndEq hc314), g315, (bndEq hc316), trivial⟩ (by kernel_rfl) (by kernel_rfl) (by kernel_rfl) ?_
              replace H := bind_some H
              obtain ⟨y317, hy318, H⟩ := H
              refine o_eff 23 _ rfl (by kernel_rfl) ?_
              refine e_callf _ _ _ 18 #[] #[] #[.slice A59 y57.1.length c60, .slice A67 y65.1.length c68] #[.slice A59 y57.1.length c60, .slice A67 y65.1.length c68] rfl (by kernel_rfl) (by kernel_rfl) (by kernel_rfl) (enter18 _) (assizeref03zSameVals_calls A59 c60 y57.1 A67 c68 y65.1 (memOf _) _ (Inv.start _) (hI.row 3 rfl) (hI.rowle 3 rfl) (hI.row 4 rfl) (hI.rowle 4 rfl) _ hy318) ?_
              rintro _ _ ⟨rfl, hI'⟩
              replace hI := hI.call0 hI'
              clear hI'
              refine ⟨_, rfl, ?_⟩
              replace H := cond_some H
              rcases H with ⟨hc319, H⟩ | ⟨hc319, H⟩
              · replace H := must_some H
                obtain ⟨g320, H⟩ := H
                obtain ⟨b321, rfl⟩ := hI.rowAt 1 rfl g320
                replace H := cond_some H
                rcases H with ⟨hc322, H⟩ | ⟨hc322, H⟩
                · replace H := must_some H
                  obtain ⟨g323, H⟩ := H
                  obtain ⟨b324, rfl⟩ := hI.rowAt 0 rfl g323
                  refine o_batch 24 [(b321, 0 + (w64 (((l161 ++ ([5] : List Int)).length : Int) - 1)).toNat * 1, [.int .i64 (idx (l161 ++ ([5] : List Int)) (w64 (((l161 ++ ([5] : List Int)).length : Int) - 1)))]), (b324, 0 + (w64 (((l265 ++ ([6] : List Int)).length : Int) - 1)).toNat * 1, [.int .i64 (idx (l265 ++ ([6] : List Int)) (w64 (((l265 ++ ([6] : List Int)).length : Int) - 1)))])] [.p, .c true, .p, .p, .p, .p, .x, .l 0 0, .p, .p, .c true, .p, .p, .p, .p, .x, .l 1 0, .p, .p, .p] [(106, .bool y317), (107, .bool true), (108, .slice (some ⟨b321, 0, none⟩) ((l161 ++ ([5] : List Int)).length) c284), (109, .slice (some ⟨b321, 0, none⟩) ((l161 ++ ([5] : List Int)).length) c284), (110, .int .i64 ((l161 ++ ([5] : List Int)).length : Int)), (111, .int .i64 (w64 (((l161 ++ ([5] : List Int)).length : Int) - 1))), (112, .pointer (some ⟨b321, 0 + (w64 (((l161 ++ ([5] : List Int)).length : Int) - 1)).toNat * 1, none⟩)), (113, .int .i64 (idx (l161 ++ ([5] : List Int)) (w64 (((l161 ++ ([5] : List Int)).length : Int) - 1)))), (114, .bool (idx (l161 ++ ([5] : List Int)) (w64 (((l161 ++ ([5] : List Int)).length : Int) - 1)) == 5)), (115, .bool (idx (l161 ++ ([5] : List Int)) (w64 (((l161 ++ ([5] : List Int)).length : Int) - 1)) == 5)), (116, .bool true), (117, .slice (some ⟨b324, 0, none⟩) ((l265 ++ ([6] : List Int)).length) c292), (118, .slice (some ⟨b324, 0, none⟩) ((l265 ++ ([6] : List Int)).length) c292), (119, .int .i64 ((l265 ++ ([6] : List Int)).length : Int)), (120, .int .i64 (w64 (((l265 ++ ([6] : List Int)).length : Int) - 1))), (121, .pointer (some ⟨b324, 0 + (w64 (((l265 ++ ([6] : List Int)).length : Int) - 1)).toNat * 1, none⟩)), (122, .int .i64 (idx (l265 ++ ([6] : List Int)) (w64 (((l265 ++ ([6] : List Int)).length : Int) - 1)))), (123, .bool (idx (l265 ++ ([6] : List Int)) (w64 (((l265 ++ ([6] : List Int)).length : Int) - 1)) == 6)), (124, .bool (idx (l265 ++ ([6] : List Int)) (w64 (((l265 ++ ([6] : List Int)).length : Int) - 1)) == 6)), (6, .bool (idx (l265 ++ ([6] : List Int)) (w64 (((l265 ++ ([6] : List Int)).length : Int) - 1)) == 6))] [((bif y317 == true then 0 else -1), 1), (w64 (((l161 ++ ([5] : List Int)).length : Int) - 1), (l161 ++ ([5] : List Int)).length), ((bif (idx (l161 ++ ([5] : List Int)) (w64 (((l161 ++ ([5] : List Int)).length : Int) - 1)) == 5) == true then 0 else -1), 1), (w64 (((l265 ++ ([6] : List Int)).length : Int) - 1), (l265 ++ ([6] : List Int)).length)] ⟨(rdS.flook (hI.row 1 rfl) (hI.rowlen 1 rfl) g320).ok, (rdS.flook (hI.row 0 rfl) (hI.rowlen 0 rfl) g323).ok, trivial⟩ ⟨(bndEq hc319), g320, (bndEq hc322), g323, trivial⟩ (by kernel_rfl) (by kernel_rfl) (by kernel_rfl) ?_
                  refine r_out (by kernel_rfl) ?_
                  replace H := out_some H
                  obtain ⟨_, H, he2⟩ := H
                  have he := (hout2 _ he2).symm
                  subst he
                  replace H := out_some H
                  obtain ⟨_, H, he1⟩ := H
                  have he := (hout1 _ he1).symm
                  subst he
                  replace H := Option.some.inj H
                  subst H
                  exact go_return (.bool (idx (l265 ++ ([6] : List Int)) (w64 (((l265 ++ ([6] : List Int)).length : Int) - 1)) == 6)) Try.func3 (by kernel_rfl) ⟨rfl, hI.pick [] (by decide) rfl⟩
                · refine o_batch 24 [(b321, 0 + (w64 (((l161 ++ ([5] : List Int)).length : Int) - 1)).toNat * 1, [.int .i64 (idx (l161 ++ ([5] : List Int)) (w64 (((l161 ++ ([5] : List Int)).length : Int) - 1)))])] [.p, .c true, .p, .p, .p, .p, .x, .l 0 0, .p, .p, .c false, .p, .p, .p, .p, .p, .p, .p, .p, .p] [(106, .bool y317), (107, .bool true), (108, .slice (some ⟨b321, 0, none⟩) ((l161 ++ ([5] : List Int)).length) c284), (109, .slice (some ⟨b321, 0, none⟩) ((l161 ++ ([5] : List Int)).length) c284), (110, .int .i64 ((l161 ++ ([5] : List Int)).length : Int)), (111, .int .i64 (w64 (((l161 ++ ([5] : List Int)).length : Int) - 1))), (112, .pointer (some ⟨b321, 0 + (w64 (((l161 ++ ([5] : List Int)).length : Int) - 1)).toNat * 1, none⟩)), (113, .int .i64 (idx (l161 ++ ([5] : List Int)) (w64 (((l161 ++ ([5] : List Int)).length : Int) - 1)))), (114, .bool (idx (l161 ++ ([5] : List Int)) (w64 (((l161 ++ ([5] : List Int)).length : Int) - 1)) == 5)), (115, .bool (idx (l161 ++ ([5] : List Int)) (w64 (((l161 ++ ([5] : List Int)).length : Int) - 1)) == 5)), (116, .bool false), (117, undef), (118, undef), (119, undef), (120, undef), (121, undef), (122, undef), (123, undef), (124, .bool false), (6, .bool false)] [((bif y317 == true then 0 else -1), 1), (w64 (((l161 ++ ([5] : List Int)).length : Int) - 1), (l161 ++ ([5] : List Int)).length), ((bif (idx (l161 ++ ([5] : List Int)) (w64 (((l161 ++ ([5] : List Int)).length : Int) - 1)) == 5) == false then 0 else -1), 1)] ⟨(rdS.flook (hI.row 1 rfl) (hI.rowlen 1 rfl) g320).ok, trivial⟩ ⟨(bndEq hc319), g320, (bndEq hc322), trivial⟩ (by kernel_rfl) (by kernel_rfl) (by kernel_rfl) ?_
                  refine r_out (by kernel_rfl) ?_
                  replace H := out_some H
                  obtain ⟨_, H, he2⟩ := H
                  have he := (hout2 _ he2).symm
                  subst he
                  replace H := out_some H
                  obtain ⟨_, H, he1⟩ := H
                  have he := (hout1 _ he1).symm
                  subst he
                  replace H := Option.some.inj H
                  subst H
                  exact go_return (.bool false) Try.func3 (by kernel_rfl) ⟨rfl, hI.pick [] (by decide) rfl⟩
              · refine o_batch 24 [] [.p, .c false, .p, .p, .p, .p, .p, .p, .p, .p, .p, .p, .p, .p, .p, .p, .p, .p, .p, .p] [(106, .bool y317), (107, .bool false), (108, undef), (109, undef), (110, undef), (111, undef), (112, undef), (113, undef), (114, undef), (115, .bool false), (116, .bool false), (117, undef), (118, undef), (119, undef), (120, undef), (121, undef), (122, undef), (123, undef), (124, .bool false), (6, .bool false)] [((bif y317 == false then 0 else -1), 1)] trivial ⟨(bndEq hc319), trivial⟩ (by kernel_rfl) (by kernel_rfl) (by kernel_rfl) ?_
                refine r_out (by kernel_rfl) ?_
                replace H := out_some H
                obtain ⟨_, H, he2⟩ := H
                have he := (hout2 _ he2).symm
                subst he
                replace H := out_some H
                obtain ⟨_, H, he1⟩ := H
                have he := (hout1 _ he1).symm
                subst he
                replace H := Option.some.inj H
                subst H
                exact go_return (.bool false) Try.func3 (by kernel_rfl) ⟨rfl, hI.pick [] (by decide) rfl⟩
            · refine o_batch 3 [(b313, 0 + (a1.length : Int).toNat * 1, [.int .i64 (idx (y17 ++ ([7, 8] : List Int)) (a1.length : Int))]), (b313, 0 + (w64 ((a1.length : Int) + 1)).toNat * 1, [.int .i64 (idx (y17 ++ ([7, 8] : List Int)) (w64 ((a1.length : Int) + 1)))])] [.c true, .p, .p, .p, .x, .l 0 0, .p, .p, .c true, .p, .p, .p, .p, .x, .l 1 0, .p, .p, .c false, .p, .p, .p, .p, .p, .p, .p, .p, .p, .p, .p, .p, .p, .p, .p, .p, .p, .p, .p, .p, .p, .p, .p] [(85, .bool true), (86, .slice (some ⟨b313, 0, none⟩) ((y17 ++ ([7, 8] : List Int)).length) c24), (87, .slice A1z a1.length c1z), (88, .int .i64 (a1.length : Int)), (89, .pointer (some ⟨b313, 0 + (a1.length : Int).toNat * 1, none⟩)), (90, .int .i64 (idx (y17 ++ ([7, 8] : List Int)) (a1.length : Int))), (91, .bool (idx (y17 ++ ([7, 8] : List Int)) (a1.length : Int) == 7)), (92, .bool (idx (y17 ++ ([7, 8] : List Int)) (a1.length : Int) == 7)), (93, .bool true), (94, .slice (some ⟨b313, 0, none⟩) ((y17 ++ ([7, 8] : List Int)).length) c24), (95, .slice A1z a1.length c1z), (96, .int .i64 (a1.length : Int)), (97, .int .i64 (w64 ((a1.length : Int) + 1))), (98, .pointer (some ⟨b313, 0 + (w64 ((a1.length : Int) + 1)).toNat * 1, none⟩)), (99, .int .i64 (idx (y17 ++ ([7, 8] : List Int)) (w64 ((a1.length : Int) + 1)))), (100, .bool (idx (y17 ++ ([7, 8] : List Int)) (w64 ((a1.length : Int) + 1)) == 8)), (101, .bool (idx (y17 ++ ([7, 8] : List Int)) (w64 ((a1.length : Int) + 1)) == 8)), (102, .bool false), (103, undef), (104, undef), (105, undef), (106, .bool false), (107, .bool false), (108, undef), (109, undef), (110, undef), (111, undef), (112, undef), (113, undef), (114, undef), (115, .bool false), (116, .bool false), (117, undef), (118, undef), (119, undef), (120, undef), (121, undef), (122, undef), (123, undef), (124, .bool false), (6, .bool false)] [((bif y309 == true then 0 else -1), 1), ((a1.length : Int), (y17 ++ ([7, 8] : List Int)).length), ((bif (idx (y17 ++ ([7, 8] : List Int)) (a1.length : Int) == 7) == true then 0 else -1), 1), (w64 ((a1.length : Int) + 1), (y17 ++ ([7, 8] : List Int)).length), ((bif (idx (y17 ++ ([7, 8] : List Int)) (w64 ((a1.length : Int) + 1)) == 8) == false then 0 else -1), 1)] ⟨(rdS.flook (hI.row 2 rfl) (hI.rowlen 2 rfl) g312).ok, (rdS.flook (hI.row 2 rfl) (hI.rowlen 2 rfl) g315).ok, trivial⟩ ⟨(bndEq hc311), g312, (bndEq hc314), g315, (bndEq hc316), trivial⟩ (by kernel_rfl) (by kernel_rfl) (by kernel_rfl) ?_
              refine r_out (by kernel_rfl) ?_
              replace H := out_some H
              obtain ⟨_, H, he2⟩ := H
              have he := (hout2 _ he2).symm
              subst he
              replace H := out_some H
              obtain ⟨_, H, he1⟩ := H
              have he := (hout1 _ he1).symm
              subst he
              replace H := Option.some.inj H
              subst H
              exact go_return (.bool false) Try.func3 (by kernel_rfl) ⟨rfl, hI.pick [] (by decide) rfl⟩
          · refine o_batch 3 [(b313, 0 + (a1.length : Int).toNat * 1, [.int .i64 (idx (y17 ++ ([7, 8] : List Int)) (a1.length : Int))])] [.c true, .p, .p, .p, .x, .l 0 0, .p, .p, .c false, .p, .p, .p, .p, .p, .p, .p, .p, .p, .p, .p, .p, .p, .p, .p, .p, .p, .p, .p, .p, .p, .p, .p, .p, .p, .p, .p, .p, .p, .p, .p, .p] [(85, .bool true), (86, .slice (some ⟨b313, 0, none⟩) ((y17 ++ ([7, 8] : List Int)).length) c24), (87, .slice A1z a1.length c1z), (88, .int .i64 (a1.length : Int)), (89, .pointer (some ⟨b313, 0 + (a1.length : Int).toNat * 1, none⟩)), (90, .int .i64 (idx (y17 ++ ([7, 8] : List Int)) (a1.length : Int))), (91, .bool (idx (y17 ++ ([7, 8] : List Int)) (a1.length : Int) == 7)), (92, .bool (idx (y17 ++ ([7, 8] : List Int)) (a1.length : Int) == 7)), (93, .bool false), (94, undef), (95, undef), (96, undef), (97, undef), (98, undef), (99, undef), (100, undef), (101, .bool false), (102, .bool false), (103, undef), (104, undef), (105, undef), (106, .bool false), (107, .bool false), (108, undef), (109, undef), (110, undef), (111, undef), (112, undef), (113, undef), (114, undef), (115, .bool false), (116, .bool false), (117, undef), (118, undef), (119, undef), (120, undef), (121, undef), (122, undef), (123, undef), (124, .bool false), (6, .bool false)] [((bif y309 == true then 0 else -1), 1), ((a1.length : Int), (y17 ++ ([7, 8] : List Int)).length), ((bif (idx (y17 ++ ([7, 8] : List Int)) (a1.length : Int) == 7) == false then 0 else -1), 1)] ⟨(rdS.flook (hI.row 2 rfl) (hI.rowlen 2 rfl) g312).ok, trivial⟩ ⟨(bndEq hc311), g312, (bndEq hc314), trivial⟩ (by kernel_rfl) (by kernel_rfl) (by kernel_rfl) ?_
            refine r_out (by kernel_rfl) ?_
            replace H := out_some H
            obtain ⟨_, H, he2⟩ := H
            have he := (hout2 _ he2).symm
            subst he
            replace H := out_some H
            obtain ⟨_, H, he1⟩ := H
            have he := (hout1 _ he1).symm
            subst he
            replace H := Option.some.inj H
            subst H
            exact go_return (.bool false) Try.func3 (by kernel_rfl) ⟨rfl, hI.pick [] (by decide) rfl⟩
        · refine o_batch 3 [] [.c false, .p, .p, .p, .p, .p, .p, .p, .p, .p, .p, .p, .p, .p, .p, .p, .p, .p, .p, .p, .p, .p, .p, .p, .p, .p, .p, .p, .p, .p, .p, .p, .p, .p, .p, .p, .p, .p, .p, .p, .p] [(85, .bool false), (86, undef), (87, undef), (88, undef), (89, undef), (90, undef), (91, undef), (92, .bool false), (93, .bool false), (94, undef), (95, undef), (96, undef), (97, undef), (98, undef), (99, undef), (100, undef), (101, .bool false), (102, .bool false), (103, undef), (104, undef), (105, undef), (106, .bool false), (107, .bool false), (108, undef), (109, undef), (110, undef), (111, undef), (112, undef), (113, undef), (114, undef), (115, .bool false), (116, .bool false), (117, undef), (118, undef), (119, undef), (120, undef), (121, undef), (122, undef), (123, undef), (124, .bool false), (6, .bool false)] [((bif y309 == false then 0 else -1), 1)] trivial ⟨(bndEq hc311), trivial⟩ (by kernel_rfl) (by kernel_rfl) (by kernel_rfl) ?_
          refine r_out (by kernel_rfl) ?_
          replace H := out_some H
          obtain ⟨_, H, he2⟩ := H
          have he := (hout2 _ he2).symm
          subst he
          replace H := out_some H
          obtain ⟨_, H, he1⟩ := H
          have he := (hout1 _ he1).symm
          subst he
          replace H := Option.some.inj H
          subst H
          exact go_return (.bool false) Try.func3 (by kernel_rfl) ⟨rfl, hI.pick [] (by decide) rfl⟩

/-! ### state.register .start -/
theorem enter89 (a : Array Value) : Sem.pureRun Try.prog (callFunc 89 a) = some (.enter 89 a) := by kernel_rfl
theorem state_register_start_calls (a0 : Unit) (M : Mem) (w : World) (hI : Inv M w []) (r : List Int) (H : state_register_start a0 = some r) :
    Calls Try.prog 89 #[.agg #[]] w fun e w' => ∃ (A4 : Option Addr) (c5 : Nat), e = .returned (.slice A4 r.length c5) ∧ Inv M w' [.row (tInt .i64) 2 A4 r.length c5 r] := by
  refine calls_go (updL (fun _ => undef) [(0, .agg #[])]) Try.func89 rfl (by kernel_rfl) ?_
  intro cs
  unfold state_register_start at H
  refine go_seq ?_
  refine r_in ?_
  refine o_eff 0 _ rfl (by kernel_rfl) ?_
  refine e_box 83 _ (.agg #[]) [] rfl (by kernel_rfl) rfl hI ?_
  clear hI
  intro b2 _ hI
  refine o_batch 1 [] [.p] [(2, .slice none 0 0)] [] trivial trivial (by kernel_rfl) (by kernel_rfl) (by kernel_rfl) ?_
  refine r_out (by kernel_rfl) ?_
  refine go_seq ?_
  refine r_in ?_
  refine o_batch 0 [] [.p] [(2, .slice none 0 0)] [] trivial trivial (by kernel_rfl) (by kernel_rfl) (by kernel_rfl) ?_
  refine r_out (by kernel_rfl) ?_
  replace H := Option.some.inj H
  subst H
  exact go_return (.slice none 0 0) Try.func89 (by kernel_rfl) ⟨none, 0, rfl, (hI.nilrow (tInt .i64) 2).pick [1] (by decide) rfl⟩

/-! ### state.list .start -/
theorem enter93 (a : Array Value) : Sem.pureRun Try.prog (callFunc 93 a) = some (.enter 93 a) := by kernel_rfl
theorem state_list_start_calls (a0 : Unit) (M : Mem) (w : World) (hI : Inv M w []) (r : List Int) (H : state_list_start a0 = some r) :
    Calls Try.prog 93 #[.agg #[]] w fun e w' => ∃ (A4 : Option Addr) (c5 : Nat), e = .returned (.slice A4 r.length c5) ∧ Inv M w' [.row (tInt .i64) 2 A4 r.length c5 r] := by
  refine calls_go (updL (fun _ => undef) [(0, .agg #[])]) Try.func93 rfl (by kernel_rfl) ?_
  intro cs
  unfold state_list_start at H
  refine go_seq ?_
  refine r_in ?_
  refine o_eff 0 _ rfl (by kernel_rfl) ?_
  refine e_box 84 _ (.agg #[]) [] rfl (by kernel_rfl) rfl hI ?_
  clear hI
  intro b2 _ hI
  refine o_batch 1 [] [.p] [(2, .slice none 0 0)] [] trivial trivial (by kernel_rfl) (by kernel_rfl) (by kernel_rfl) ?_
  refine r_out (by kernel_rfl) ?_
  refine go_seq ?_
  refine r_in ?_
  refine o_batch 0 [] [.p] [(2, .slice none 0 0)] [] trivial trivial (by kernel_rfl) (by kernel_rfl) (by kernel_rfl) ?_
  refine r_out (by kernel_rfl) ?_
  replace H := Option.some.inj H
  subst H
  exact go_return (.slice none 0 0) Try.func93 (by kernel_rfl) ⟨none, 0, rfl, (hI.nilrow (tInt .i64) 2).pick [1] (by decide) rfl⟩

/-! ### state.set .start -/
theorem enter98 (a : Array Value) : Sem.pureRun Try.prog (callFunc 98 a) = some (.enter 98 a) := by kernel_rfl
theorem state_set_start_calls (a0 : Unit) (M : Mem) (w : World) (hI : Inv M w []) (r : List Int) (H : state_set_start a0 = some r) :
    Calls Try.prog 98 #[.agg #[]] w fun e w' => ∃ (A4 : Option Addr) (c5 : Nat), e = .returned (.slice A4 r.length c5) ∧ Inv M w' [.row (tInt .i64) 2 A4 r.length c5 r] := by
  refine calls_go (updL (fun _ => undef) [(0, .agg #[])]) Try.func98 rfl (by kernel_rfl) ?_
  intro cs
  unfold state_set_start at H
  refine go_seq ?_
  refine r_in ?_
  refine o_eff 0 _ rfl (by kernel_rfl) ?_
  refine e_box 85 _ (.agg #[]) [] rfl (by kernel_rfl) rfl hI ?_
  clear hI
  intro b2 _ hI
  refine o_batch 1 [] [.p] [(2, .slice none 0 0)] [] trivial trivial (by kernel_rfl) (by kernel_rfl) (by kernel_rfl) ?_
  refine r_out (by kernel_rfl) ?_
  refine go_seq ?_
  refine r_in ?_
  refine o_batch 0 [] [.p] [(2, .slice none 0 0)] [] trivial trivial (by kernel_rfl) (by kernel_rfl) (by kernel_rfl) ?_
  refine r_out (by kernel_rfl) ?_
  replace H := Option.some.inj H
  subst H
  exact go_return (.slice none 0 0) Try.func98 (by kernel_rfl) ⟨none, 0, rfl, (hI.nilrow (tInt .i64) 2).pick [1] (by decide) rfl⟩

/-! ### state.counter .start -/
theorem enter112 (a : Array Value) : Sem.pureRun Try.prog (callFunc 112 a) = some (.enter 112 a) := by kernel_rfl
theorem state_counter_start_calls (a0 : Unit) (M : Mem) (w : World) (hI : Inv M w []) (r : List Int) (H : state_counter_start a0 = some r) :
    Calls Try.prog 112 #[.agg #[]] w fun e w' => ∃ (A6 : Option Addr) (c7 : Nat), e = .returned (.slice A6 r.length c7) ∧ Inv M w' [.row (tInt .i64) 2 A6 r.length c7 r] := by
  refine calls_go (updL (fun _ => undef) [(0, .agg #[])]) Try.func112 rfl (by kernel_rfl) ?_
  intro cs
  unfold state_counter_start at H
  refine go_seq ?_
  refine r_in ?_
  refine o_eff 0 _ rfl (by kernel_rfl) ?_
  refine e_box 86 _ (.agg #[]) [] rfl (by kernel_rfl) rfl hI ?_
  clear hI
  intro b2 _ hI
  refine o_batch 1 [] [.p] [(2, .slice none 0 0)] [] trivial trivial (by kernel_rfl) (by kernel_rfl) (by kernel_rfl) ?_
  refine r_out (by kernel_rfl) ?_
  refine go_seq ?_
  refine r_in ?_
  refine o_eff 0 _ rfl (by kernel_rfl) ?_
  refine e_parts 22 2 1 _ _ _ #[.int .i64 0] [.int .i64 0] rfl rfl rfl rfl (by kernel_rfl) (by kernel_rfl) (by kernel_rfl) (by kernel_rfl) hI ?_
  clear hI
  intro b4 _ hI
  replace hI := hI.asrow (k := (tInt .i64)) (xs := ([0] : List Int)) (cs := [.int .i64 0]) (R := []) (L' := [.blk b2 86 []]) 1 1 [] [0] (by decide) rfl (mks_cons (mk_flat (k := (tInt .i64)) 0 [.int .i64 0] rfl) mks_nil) rfl rfl (by kernel_rfl)
  refine o_batch 1 [] [.p] [(2, .slice (some ⟨b4, 0, none⟩) 1 1)] [] trivial trivial (by kernel_rfl) (by kernel_rfl) (by kernel_rfl) ?_
  refine r_out (by kernel_rfl) ?_
  refine go_is 2 (.slice (some ⟨b4, 0, none⟩) 1 1) (.slice (some ⟨b4, 0, none⟩) (([0] : List Int).length) 1) (by kernel_rfl) (by first | rfl | simp only [List.length_set, List.length_replicate, List.length_nil]) ?_
  replace hI := hI.renum 0 rfl
  replace H := Option.some.inj H
  subst H
  exact go_return (.slice (some ⟨b4, 0, none⟩) (([0] : List Int).length) 1) Try.func112 (by kernel_rfl) ⟨(some ⟨b4, 0, none⟩), 1, rfl, hI.pick [0] (by decide) rfl⟩

/-! ### state.Start -/
theorem enter19 (a : Array Value) : Sem.pureRun Try.prog (callFunc 19 a) = some (.enter 19 a) := by kernel_rfl
theorem state_Start_calls (a0 : Int) (M : Mem) (w : World) (hI : Inv M w []) (r : List Int × Int) (H : state_Start a0 = some r) :
    Calls Try.prog 19 #[.int .i64 a0] w fun e w' => ∃ (A48 : Option Addr) (c49 : Nat), e = .returned (.tuple #[.slice A48 r.1.length c49, .int .i64 r.2]) ∧ Inv M w' [.row (tInt .i64) 2 A48 r.1.length c49 r.1] := by
  refine calls_go (updL (fun _ => undef) [(0, .int .i64 a0)]) Try.func19 rfl (by kernel_rfl) ?_
  intro cs
  unfold state_Start at H
  refine go_seq ?_
  refine r_in ?_
  refine o_batch 0 [] [.p, .p] [(2, .slice none 0 0), (3, .int .i64 0)] [] trivial trivial (by kernel_rfl) (by kernel_rfl) (by kernel_rfl) ?_
  refine r_out (by kernel_rfl) ?_
  refine go_seq ?_
  refine r_in ?_
  refine o_batch 0 [] [.p] [(5, .int .i64 a0)] [] trivial trivial (by kernel_rfl) (by kernel_rfl) (by kernel_rfl) ?_
  replace H := bind_some H
  obtain ⟨y8, hy9, H⟩ := H
  refine o_eff 1 _ rfl (by kernel_rfl) ?_
  refine e_callf _ _ _ 38 #[] #[] #[.int .i64 a0] #[.int .i64 a0] rfl (by kernel_rfl) (by kernel_rfl) (by kernel_rfl) (enter38 _) (state_of_calls a0 (memOf _) _ (Inv.start _) _ hy9) ?_
  rintro _ _ ⟨rfl, hI'⟩
  replace hI := hI.call0 hI'
  clear hI'
  refine ⟨_, rfl, ?_⟩
  replace H := cond_some H
  rcases H with ⟨hc10, H⟩ | ⟨hc10, H⟩
  · refine o_is 6 (ifaceV y8) (.iface 83 (.agg #[])) (by kernel_rfl) (congrArg ifaceV (eq_of_beq hc10)) ?_
    refine o_batch 2 [] [.p] [(4, .iface 83 (.agg #[]))] [] trivial trivial (by kernel_rfl) (by kernel_rfl) (by kernel_rfl) ?_
    refine r_out (by kernel_rfl) ?_
    refine go_seq ?_
    refine go_seq ?_
    refine r_in ?_
    refine o_batch 0 [] [.p, .p] [(7, .iface 83 (.agg #[])), (8, .bool false)] [] trivial trivial (by kernel_rfl) (by kernel_rfl) (by kernel_rfl) ?_
    refine r_out (by kernel_rfl) ?_
    refine go_else (by kernel_rfl) ?_
    refine go_skip ?_
    refine go_seq ?_
    refine r_in ?_
    refine o_batch 0 [] [.p] [(9, .iface 83 (.agg #[]))] [] trivial trivial (by kernel_rfl) (by kernel_rfl) (by kernel_rfl) ?_
    replace H := bind_some H
    obtain ⟨y15, hy16, H⟩ := H
    refine o_eff 1 _ rfl (by kernel_rfl) ?_
    refine e_enter 89 #[.agg #[]] (by kernel_rfl) (state_register_start_calls () (memOf _) _ (Inv.start _) _ hy16) ?_
    rintro _ _ ⟨A17, c18, rfl, hI'⟩
    replace hI := hI.call0 hI'
    clear hI'
    refine ⟨_, rfl, ?_⟩
    refine o_batch 2 [] [.p, .p] [(2, .slice A17 y15.length c18), (3, .int .i64 0)] [] trivial trivial (by kernel_rfl) (by kernel_rfl) (by kernel_rfl) ?_
    refine r_out (by kernel_rfl) ?_
    replace H := Option.some.inj H
    subst H
    exact go_return (.tuple #[.slice A17 y15.length c18, .int .i64 0]) Try.func19 (by kernel_rfl) ⟨A17, c18, rfl, hI⟩
  · replace H := cond_some H
    rcases H with ⟨hc19, H⟩ | ⟨hc19, H⟩
    · refine o_is 6 (ifaceV y8) (.iface 84 (.agg #[])) (by kernel_rfl) (congrArg ifaceV (eq_of_beq hc19)) ?_
      refine o_batch 2 [] [.p] [(4, .iface 84 (.agg #[]))] [] trivial trivial (by kernel_rfl) (by kernel_rfl) (by kernel_rfl) ?_
      refine r_out (by kernel_rfl) ?_
      refine go_seq ?_
      refine go_seq ?_
      refine r_in ?_
      refine o_batch 0 [] [.p, .p] [(7, .iface 84 (.agg #[])), (8, .bool false)] [] trivial trivial (by kernel_rfl) (by kernel_rfl) (by kernel_rfl) ?_
      refine r_out (by kernel_rfl) ?_
      refine go_else (by kernel_rfl) ?_
      refine go_skip ?_
      refine go_seq ?_
      refine r_in ?_
      refine o_batch 0 [] [.p] [(9, .iface 84 (.agg #[]))] [] trivial trivial (by kernel_rfl) (by kernel_rfl) (by kernel_rfl) ?_
      replace H := bind_some H
      obtain ⟨y24, hy25, H⟩ := H
      refine o_eff 1 _ rfl (by kernel_rfl) ?_
      refine e_enter 93 #[.agg #[]] (by kernel_rfl) (state_list_start_calls () (memOf _) _ (Inv.start _) _ hy25) ?_
      rintro _ _ ⟨A26, c27, rfl, hI'⟩
      replace hI := hI.call0 hI'
      clear hI'
      refine ⟨_, rfl, ?_⟩
      refine o_batch 2 [] [.p, .p] [(2, .slice A26 y24.length c27), (3, .int .i64 0)] [] trivial trivial (by kernel_rfl) (by kernel_rfl) (by kernel_rfl) ?_
      refine r_out (by kernel_rfl) ?_
      replace H := Option.some.inj H
      subst H
      exact go_return (.tuple #[.slice A26 y24.length c27, .int .i64 0]) Try.func19 (by kernel_rfl) ⟨A26, c27, rfl, hI⟩
    · replace H := cond_some H
      rcases H with ⟨hc28, H⟩ | ⟨hc28, H⟩
      · refine o_is 6 (ifaceV y8) (.iface 85 (.agg #[])) (by kernel_rfl) (congrArg ifaceV (eq_of_beq hc28)) ?_
        refine o_batch 2 [] [.p] [(4, .iface 85 (.agg #[]))] [] trivial trivial (by kernel_rfl) (by kernel_rfl) (by kernel_rfl) ?_
        refine r_out (by kernel_rfl) ?_
        refine go_seq ?_
        refine go_seq ?_
        refine r_in ?_
        refine o_batch 0 [] [.p, .p] [(7, .iface 85 (.agg #[])), (8, .bool false)] [] trivial trivial (by kernel_rfl) (by kernel_rfl) (by kernel_rfl) ?_
        refine r_out (by kernel_rfl) ?_
        refine go_else (by kernel_rfl) ?_
        refine go_skip ?_
        refine go_seq ?_
        refine r_in ?_
        refine o_batch 0 [] [.p] [(9, .iface 85 (.agg #[]))] [] trivial trivial (by kernel_rfl) (by kernel_rfl) (by kernel_rfl) ?_
        replace H := bind_some H
        obtain ⟨y33, hy34, H⟩ := H
        refine o_eff 1 _ rfl (by kernel_rfl) ?_
        refine e_enter 98 #[.agg #[]] (by kernel_rfl) (state_set_start_calls () (memOf _) _ (Inv.start _) _ hy34) ?_
        rintro _ _ ⟨A35, c36, rfl, hI'⟩
        replace hI := hI.call0 hI'
        clear hI'
        refine ⟨_, rfl, ?_⟩
        refine o_batch 2 [] [.p, .p] [(2, .slice A35 y33.length c36), (3, .int .i64 0)] [] trivial trivial (by kernel_rfl) (by kernel_rfl) (by kernel_rfl) ?_
        refine r_out (by kernel_rfl) ?_
        replace H := Option.some.inj H
        subst H
        exact go_return (.tuple #[.slice A35 y33.length c36, .int .i64 0]) Try.func19 (by kernel_rfl) ⟨A35, c36, rfl, hI⟩
      · replace H := cond_some H
        rcases H with ⟨hc37, H⟩ | ⟨hc37, H⟩
        · refine o_is 6 (ifaceV y8) (.iface 86 (.agg #[])) (by kernel_rfl) (congrArg ifaceV (eq_of_beq hc37)) ?_
          refine o_batch 2 [] [.p] [(4, .iface 86 (.agg #[]))] [] trivial trivial (by kernel_rfl) (by kernel_rfl) (by kernel_rfl) ?_
          refine r_out (by kernel_rfl) ?_
          refine go_seq ?_
          refine go_seq ?_
          refine r_in ?_
          refine o_batch 0 [] [.p, .p] [(7, .iface 86 (.agg #[])), (8, .bool false)] [] trivial trivial (by kernel_rfl) (by kernel_rfl) (by kernel_rfl) ?_
          refine r_out (by kernel_rfl) ?_
          refine go_else (by kernel_rfl) ?_
          refine go_skip ?_
          refine go_seq ?_
          refine r_in ?_
          refine o_batch 0 [] [.p] [(9, .iface 86 (.agg #[]))] [] trivial trivial (by kernel_rfl) (by kernel_rfl) (by kernel_rfl) ?_
          replace H := bind_some H
          obtain ⟨y42, hy43, H⟩ := H
          refine o_eff 1 _ rfl (by kernel_rfl) ?_
          refine e_enter 112 #[.agg #[]] (by kernel_rfl) (state_counter_start_calls () (memOf _) _ (Inv.start _) _ hy43) ?_
          rintro _ _ ⟨A44, c45, rfl, hI'⟩
          replace hI := hI.call0 hI'
          clear hI'
          refine ⟨_, rfl, ?_⟩
          refine o_batch 2 [] [.p, .p] [(2, .slice A44 y42.length c45), (3, .int .i64 0)] [] trivial trivial (by kernel_rfl) (by kernel_rfl) (by kernel_rfl) ?_
          refine r_out (by kernel_rfl) ?_
          replace H := Option.some.inj H
          subst H
          exact go_return (.tuple #[.slice A44 y42.length c45, .int .i64 0]) Try.func19 (by kernel_rfl) ⟨A44, c45, rfl, hI⟩
        · replace H := cond_some H
          rcases H with ⟨hc46, H⟩ | ⟨hc46, H⟩
          · refine o_is 6 (ifaceV y8) (.nilIface) (by kernel_rfl) (congrArg ifaceV (eq_of_beq hc46)) ?_
            refine o_batch 2 [] [.p] [(4, .nilIface)] [] trivial trivial (by kernel_rfl) (by kernel_rfl) (by kernel_rfl) ?_
            refine r_out (by kernel_rfl) ?_
            refine go_seq ?_
            refine go_seq ?_
            refine r_in ?_
            refine o_batch 0 [] [.p, .p] [(7, .nilIface), (8, .bool true)] [] trivial trivial (by kernel_rfl) (by kernel_rfl) (by kernel_rfl) ?_
            refine r_out (by kernel_rfl) ?_
            refine go_then (by kernel_rfl) ?_
            refine go_seq ?_
            refine r_in ?_
            refine o_batch 0 [] [.p, .p] [(2, .slice none 0 0), (3, .int .i64 1)] [] trivial trivial (by kernel_rfl) (by kernel_rfl) (by kernel_rfl) ?_
            refine r_out (by kernel_rfl) ?_
            replace H := Option.some.inj H
            subst H
            exact go_return (.tuple #[.slice none 0 0, .int .i64 1]) Try.func19 (by kernel_rfl) ⟨none, 0, rfl, (hI.nilrow (tInt .i64) 2)⟩
          · cases H

/-! ### assizeref08.Start -/
theorem enter20 (a : Array Value) : Sem.pureRun Try.prog (callFunc 20 a) = some (.enter 20 a) := by kernel_rfl
theorem assizeref08zStart_calls (a0 : Int) (M : Mem) (w : World) (hI : Inv M w []) (r : List Int × Int) (H : assizeref08zStart a0 = some r) :
    Calls Try.prog 20 #[.int .i64 a0] w fun e w' => ∃ (A15 : Option Addr) (c16 : Nat), e = .returned (.tuple #[.slice A15 r.1.length c16, .int .i64 r.2]) ∧ Inv M w' [.row (tInt .i64) 2 A15 r.1.length c16 r.1] := by
  refine calls_go (updL (fun _ => undef) [(0, .int .i64 a0)]) Try.func20 rfl (by kernel_rfl) ?_
  intro cs
  unfold assizeref08zStart at H
  refine go_seq ?_
  refine r_in ?_
  refine o_batch 0 [] [.p, .p] [(2, .slice none 0 0), (3, .int .i64 0)] [] trivial trivial (by kernel_rfl) (by kernel_rfl) (by kernel_rfl) ?_
  refine r_out (by kernel_rfl) ?_
  refine go_seq ?_
  refine go_seq_join (o := r) (fun b5 f w => ∃ (j : Nat → Value), f = updL j [(0, .int .i64 a0), (9, .bool b5)] ∧ Inv M w []) (fun b5 => assizeref08zStart.j1 a0 b5) ?_ (fun hJ6 => ?_)
  · clear H hI
    rintro b5 _ _ ⟨_, rfl, hI⟩ H
    replace H := cond_some H
    rcases H with ⟨hc7, H⟩ | ⟨hc7, H⟩
    · refine go_then' (t := b5) (by kernel_rfl) hc7 ?_
      refine go_seq ?_
      refine r_in ?_
      refine o_batch 0 [] [.p, .p] [(2, .slice none 0 0), (3, .int .i64 1)] [] trivial trivial (by kernel_rfl) (by kernel_rfl) (by kernel_rfl) ?_
      refine r_out (by kernel_rfl) ?_
      replace H := Option.some.inj H
      subst H
      exact go_return (.tuple #[.slice none 0 0, .int .i64 1]) Try.func20 (by kernel_rfl) ⟨none, 0, rfl, (hI.nilrow (tInt .i64) 2)⟩
    · refine go_else' (t := b5) (by kernel_rfl) hc7 ?_
      refine go_skip ?_
      refine go_seq ?_
      refine go_seq ?_
      refine r_in ?_
      refine o_batch 0 [] [.p, .p] [(10, .int .i64 a0), (11, .bool (a0 == 4))] [] trivial trivial (by kernel_rfl) (by kernel_rfl) (by kernel_rfl) ?_
      refine r_out (by kernel_rfl) ?_
      replace H := cond_some H
      rcases H with ⟨hc10, H⟩ | ⟨hc10, H⟩
      · refine go_then' (t := (a0 == 4)) (by kernel_rfl) hc10 ?_
        refine go_seq ?_
        refine r_in ?_
        refine o_eff 0 _ rfl (by kernel_rfl) ?_
        refine e_parts 22 2 1 _ _ _ #[.int .i64 0] [.int .i64 0] rfl rfl rfl rfl (by kernel_rfl) (by kernel_rfl) (by kernel_rfl) (by kernel_rfl) hI ?_
        clear hI
        intro b12 _ hI
        replace hI := hI.asrow (k := (tInt .i64)) (xs := ([0] : List Int)) (cs := [.int .i64 0]) (R := []) (L' := []) 1 0 [] [] (by decide) rfl (mks_cons (mk_flat (k := (tInt .i64)) 0 [.int .i64 0] rfl) mks_nil) rfl rfl (by kernel_rfl)
        refine o_batch 1 [] [.p, .p] [(2, .slice (some ⟨b12, 0, none⟩) 1 1), (3, .int .i64 0)] [] trivial trivial (by kernel_rfl) (by kernel_rfl) (by kernel_rfl) ?_
        refine r_out (by kernel_rfl) ?_
        refine go_is 2 (.slice (some ⟨b12, 0, none⟩) 1 1) (.slice (some ⟨b12, 0, none⟩) (([0] : List Int).length) 1) (by kernel_rfl) (by first | rfl | simp only [List.length_set, List.length_replicate, List.length_nil]) ?_
        replace hI := hI.renum 0 rfl
        replace H := Option.some.inj H
        subst H
        exact go_return (.tuple #[.slice (some ⟨b12, 0, none⟩) (([0] : List Int).length) 1, .int .i64 0]) Try.func20 (by kernel_rfl) ⟨(some ⟨b12, 0, none⟩), 1, rfl, hI⟩
      · refine go_else' (t := (a0 == 4)) (by kernel_rfl) hc10 ?_
        refine go_skip ?_
        refine go_seq ?_
        refine r_in ?_
        refine o_batch 0 [] [.p, .p] [(2, .slice none 0 0), (3, .int .i64 0)] [] trivial trivial (by kernel_rfl) (by kernel_rfl) (by kernel_rfl) ?_
        refine r_out (by kernel_rfl) ?_
        replace H := Option.some.inj H
        subst H
        exact go_return (.tuple #[.slice none 0 0, .int .i64 0]) Try.func20 (by kernel_rfl) ⟨none, 0, rfl, (hI.nilrow (tInt .i64) 2)⟩
  · refine r_in ?_
    replace H := cond_some H
    rcases H with ⟨hc13, H⟩ | ⟨hc13, H⟩
    · refine o_batch 0 [] [.p, .p, .c true, .p, .p, .p] [(4, .int .i64 a0), (5, .bool (decide (a0 < 1))), (6, .bool true), (7, undef), (8, undef), (9, .bool true)] [((bif (decide (a0 < 1)) == true then 0 else -1), 1)] trivial ⟨(bndEq hc13), trivial⟩ (by kernel_rfl) (by kernel_rfl) (by kernel_rfl) ?_
      refine r_out (by kernel_rfl) ?_
      exact hJ6 true _ _ ⟨_, at_slots _ (by kernel_rfl), hI⟩ H
    · refine o_batch 0 [] [.p, .p, .c false, .p, .p, .p] [(4, .int .i64 a0), (5, .bool (decide (a0 < 1))), (6, .bool false), (7, .int .i64 a0), (8, .bool (decide (a0 > 4))), (9, .bool (decide (a0 > 4)))] [((bif (decide (a0 < 1)) == false then 0 else -1), 1)] trivial ⟨(bndEq hc13), trivial⟩ (by kernel_rfl) (by kernel_rfl) (by kernel_rfl) ?_
      refine r_out (by kernel_rfl) ?_
      exact hJ6 (decide (a0 > 4)) _ _ ⟨_, at_slots _ (by kernel_rfl), hI⟩ H

/-! ### assizelaw08.StateApplies -/
theorem enter4 (a : Array Value) : Sem.pureRun Try.prog (callFunc 4 a) = some (.enter 4 a) := by kernel_rfl
theorem assizelaw08zStateApplies_calls (a0 : Int) (A1z : Option Addr) (c1z : Nat) (a1 : List Int) (a2 : Int) (M : Mem) (w : World) (hI : Inv M w []) (hr1z : rdS (tInt .i64) M.blk A1z a1) (hl1z : a1.length ≤ c1z) (r : Bool) (H : assizelaw08zStateApplies a0 a1 a2 = some r) :
    Calls Try.prog 4 #[.int .i64 a0, .slice A1z a1.length c1z, .int .i64 a2] w fun e w' => e = .returned (.bool r) ∧ Inv M w' [] := by
  refine calls_go (updL (fun _ => undef) [(0, .int .i64 a0), (1, .slice A1z a1.length c1z), (2, .int .i64 a2)]) Try.func4 rfl (by kernel_rfl) ?_
  intro cs
  unfold assizelaw08zStateApplies at H
  refine go_seq ?_
  refine r_in ?_
  refine o_batch 0 [] [.p] [(6, .bool false)] [] trivial trivial (by kernel_rfl) (by kernel_rfl) (by kernel_rfl) ?_
  refine r_out (by kernel_rfl) ?_
  refine go_seq ?_
  refine go_seq ?_
  refine r_in ?_
  replace H := bind_some H
  obtain ⟨y6, hy7, H⟩ := H
  refine o_eff 0 _ rfl (by kernel_rfl) ?_
  refine e_callf _ _ _ 13 #[] #[] #[] #[] rfl (by kernel_rfl) (by kernel_rfl) (by kernel_rfl) (enter13 _) (assizelaw08zalive_calls (memOf _) _ (Inv.start _) _ hy7) ?_
  rintro _ _ ⟨rfl, hI'⟩
  replace hI := hI.call0 hI'
  clear hI'
  refine ⟨_, rfl, ?_⟩
  refine o_batch 1 [] [.p] [(16, .bool (!y6))] [] trivial trivial (by kernel_rfl) (by kernel_rfl) (by kernel_rfl) ?_
  refine r_out (by kernel_rfl) ?_
  replace H := cond_some H
  rcases H with ⟨hc8, H⟩ | ⟨hc8, H⟩
  · refine go_then' (t := !y6) (by kernel_rfl) hc8 ?_
    refine go_seq ?_
    refine r_in ?_
    refine o_batch 0 [] [.p] [(6, .bool false)] [] trivial trivial (by kernel_rfl) (by kernel_rfl) (by kernel_rfl) ?_
    refine r_out (by kernel_rfl) ?_
    replace H := Option.some.inj H
    subst H
    exact go_return (.bool false) Try.func4 (by kernel_rfl) ⟨rfl, hI⟩
  · refine go_else' (t := !y6) (by kernel_rfl) hc8 ?_
    refine go_skip ?_
    refine go_seq ?_
    refine r_in ?_
    refine o_batch 0 [] [.p, .p] [(18, .int .i64 a0), (19, .slice A1z a1.length c1z)] [] trivial trivial (by kernel_rfl) (by kernel_rfl) (by kernel_rfl) ?_
    replace H := bind_some H
    obtain ⟨y17, hy18, H⟩ := H
    refine o_eff 2 _ rfl (by kernel_rfl) ?_
    refine e_callf _ _ _ 14 #[] #[] #[.slice A1z a1.length c1z] #[.slice A1z a1.length c1z] rfl (by kernel_rfl) (by kernel_rfl) (by kernel_rfl) (enter14 _) (assizelaw08zcopied_calls A1z c1z a1 (memOf _) _ (Inv.start _) (hI.rd hr1z) hl1z _ hy18) ?_
    rintro _ _ ⟨A19, c20, rfl, hI'⟩
    replace hI := hI.call0 hI'
    clear hI'
    refine ⟨_, rfl, ?_⟩
    refine o_batch 3 [] [.p] [(21, .int .i64 a2)] [] trivial trivial (by kernel_rfl) (by kernel_rfl) (by kernel_rfl) ?_
    replace H := bind_some H
    obtain ⟨y21, hy22, H⟩ := H
    refine o_eff 4 _ rfl (by kernel_rfl) ?_
    refine e_callf _ _ _ 15 #[] #[] #[.int .i64 a0, .slice A19 y17.length c20, .int .i64 a2] #[.int .i64 a0, .slice A19 y17.length c20, .int .i64 a2] rfl (by kernel_rfl) (by kernel_rfl) (by kernel_rfl) (enter15 _) (state_Apply_calls a0 A19 c20 y17 a2 (memOf _) _ (Inv.start _) (hI.row 0 rfl) (hI.rowle 0 rfl) _ hy22) ?_
    rintro _ _ ⟨A23, c24, rfl, hI'⟩
    replace hI := hI.call0 hI'
    clear hI'
    refine ⟨_, rfl, ?_⟩
    refine o_batch 5 [] [.p, .p, .p, .p, .p] [(17, .tuple #[.slice A23 y21.1.length c24, .int .i64 y21.2]), (23, .slice A23 y21.1.length c24), (24, .int .i64 y21.2), (7, .slice A23 y21.1.length c24), (8, .int .i64 y21.2)] [] trivial trivial (by kernel_rfl) (by kernel_rfl) (by kernel_rfl) ?_
    refine r_out (by kernel_rfl) ?_
    refine go_seq ?_
    refine r_in ?_
    refine o_batch 0 [] [.p, .p, .p] [(26, .int .i64 a0), (27, .slice A1z a1.length c1z), (28, .int .i64 a2)] [] trivial trivial (by kernel_rfl) (by kernel_rfl) (by kernel_rfl) ?_
    replace H := bind_some H
    obtain ⟨y29, hy30, H⟩ := H
    refine o_eff 3 _ rfl (by kernel_rfl) ?_
    refine e_callf _ _ _ 17 #[] #[] #[.int .i64 a0, .slice A1z a1.length c1z, .int .i64 a2] #[.int .i64 a0, .slice A1z a1.length c1z, .int .i64 a2] rfl (by kernel_rfl) (by kernel_rfl) (by kernel_rfl) (enter17 _) (assizeref08zApply_calls a0 A1z c1z a1 a2 (memOf _) _ (Inv.start _) (hI.rd hr1z) hl1z _ hy30) ?_
    rintro _ _ ⟨A31, c32, rfl, hI'⟩
    replace hI := hI.call0 hI'
    clear hI'
    refine ⟨_, rfl, ?_⟩
    refine o_batch 4 [] [.p, .p, .p, .p, .p] [(25, .tuple #[.slice A31 y29.1.length c32, .int .i64 y29.2]), (30, .slice A31 y29.1.length c32), (31, .int .i64 y29.2), (9, .slice A31 y29.1.length c32), (10, .int .i64 y29.2)] [] trivial trivial (by kernel_rfl) (by kernel_rfl) (by kernel_rfl) ?_
    refine r_out (by kernel_rfl) ?_
    refine go_seq ?_
    refine r_in ?_
    refine o_batch 0 [] [.p] [(33, .int .i64 a0)] [] trivial trivial (by kernel_rfl) (by kernel_rfl) (by kernel_rfl) ?_
    replace H := bind_some H
    obtain ⟨y37, hy38, H⟩ := H
    refine o_eff 1 _ rfl (by kernel_rfl) ?_
    refine e_callf _ _ _ 19 #[] #[] #[.int .i64 a0] #[.int .i64 a0] rfl (by kernel_rfl) (by kernel_rfl) (by kernel_rfl) (enter19 _) (state_Start_calls a0 (memOf _) _ (Inv.start _) _ hy38) ?_
    rintro _ _ ⟨A39, c40, rfl, hI'⟩
    replace hI := hI.call0 hI'
    clear hI'
    refine ⟨_, rfl, ?_⟩
    refine o_batch 2 [] [.p, .p, .p, .p, .p] [(32, .tuple #[.slice A39 y37.1.length c40, .int .i64 y37.2]), (35, .slice A39 y37.1.length c40), (36, .int .i64 y37.2), (11, .slice A39 y37.1.length c40), (12, .int .i64 y37.2)] [] trivial trivial (by kernel_rfl) (by kernel_rfl) (by kernel_rfl) ?_
    refine r_out (by kernel_rfl) ?_
    refine go_seq ?_
    refine r_in ?_
    refine o_batch 0 [] [.p] [(38, .int .i64 a0)] [] trivial trivial (by kernel_rfl) (by kernel_rfl) (by kernel_rfl) ?_
    replace H := bind_some H
    obtain ⟨y45, hy46, H⟩ := H
    refine o_eff 1 _ rfl (by kernel_rfl) ?_
    refine e_callf _ _ _ 20 #[] #[] #[.int .i64 a0] #[.int .i64 a0] rfl (by kernel_rfl) (by kernel_rfl) (by kernel_rfl) (enter20 _) (assizeref08zStart_calls a0 (memOf _) _ (Inv.start _) _ hy46) ?_
    rintro _ _ ⟨A47, c48, rfl, hI'⟩
    replace hI := hI.call0 hI'
    clear hI'
    refine ⟨_, rfl, ?_⟩
    refine o_batch 2 [] [.p, .p, .p, .p, .p] [(37, .tuple #[.slice A47 y45.1.length c48, .int .i64 y45.2]), (40, .slice A47 y45.1.length c48), (41, .int .i64 y45.2), (13, .slice A47 y45.1.length c48), (14, .int .i64 y45.2)] [] trivial trivial (by kernel_rfl) (by kernel_rfl) (by kernel_rfl) ?_
    refine r_out (by kernel_rfl) ?_
    refine go_seq ?_
    refine r_in ?_
    replace H := cond_some H
    rcases H with ⟨hc61, H⟩ | ⟨hc61, H⟩
    · refine o_batch 0 [] [.p, .p, .p, .c true, .p, .p] [(42, .int .i64 y21.2), (43, .int .i64 y29.2), (44, .bool (y21.2 == y29.2)), (45, .bool true), (46, .slice A23 y21.1.length c24), (47, .slice A31 y29.1.length c32)] [((bif (y21.2 == y29.2) == true then 0 else -1), 1)] trivial ⟨(bndEq hc61), trivial⟩ (by kernel_rfl) (by kernel_rfl) (by kernel_rfl) ?_
      replace H := bind_some H
      obtain ⟨y62, hy63, H⟩ := H
      refine o_eff 6 _ rfl (by kernel_rfl) ?_
      refine e_callf _ _ _ 18 #[] #[] #[.slice A23 y21.1.length c24, .slice A31 y29.1.length c32] #[.slice A23 y21.1.length c24, .slice A31 y29.1.length c32] rfl (by kernel_rfl) (by kernel_rfl) (by kernel_rfl) (enter18 _) (assizeref03zSameVals_calls A23 c24 y21.1 A31 c32 y29.1 (memOf _) _ (Inv.start _) (hI.row 1 rfl) (hI.rowle 1 rfl) (hI.row 2 rfl) (hI.rowle 2 rfl) _ hy63) ?_
      rintro _ _ ⟨rfl, hI'⟩
      replace hI := hI.call0 hI'
      clear hI'
      refine ⟨_, rfl, ?_⟩
      replace H := cond_some H
      rcases H with ⟨hc64, H⟩ | ⟨hc64, H⟩
      · replace H := cond_some H
        rcases H with ⟨hc65, H⟩ | ⟨hc65, H⟩
        · refine o_batch 7 [] [.p, .c true, .p, .p, .p, .p, .c true, .p, .p] [(49, .bool y62), (50, .bool true), (51, .int .i64 y37.2), (52, .int .i64 y45.2), (53, .bool (y37.2 == y45.2)), (54, .bool (y37.2 == y45.2)), (55, .bool true), (56, .slice A39 y37.1.length c40), (57, .slice A47 y45.1.length c48)] [((bif y62 == true then 0 else -1), 1), ((bif (y37.2 == y45.2) == true then 0 else -1), 1)] trivial ⟨(bndEq hc64), (bndEq hc65), trivial⟩ (by kernel_rfl) (by kernel_rfl) (by kernel_rfl) ?_
          replace H := bind_some H
          obtain ⟨y66, hy67, H⟩ := H
          refine o_eff 16 _ rfl (by kernel_rfl) ?_
          refine e_callf _ _ _ 18 #[] #[] #[.slice A39 y37.1.length c40, .slice A47 y45.1.length c48] #[.slice A39 y37.1.length c40, .slice A47 y45.1.length c48] rfl (by kernel_rfl) (by kernel_rfl) (by kernel_rfl) (enter18 _) (assizeref03zSameVals_calls A39 c40 y37.1 A47 c48 y45.1 (memOf _) _ (Inv.start _) (hI.row 3 rfl) (hI.rowle 3 rfl) (hI.row 4 rfl) (hI.rowle 4 rfl) _ hy67) ?_
          rintro _ _ ⟨rfl, hI'⟩
          replace hI := hI.call0 hI'
          clear hI'
          refine ⟨_, rfl, ?_⟩
          replace H := cond_some H
          rcases H with ⟨hc68, H⟩ | ⟨hc68, H⟩
          · refine o_batch 17 [] [.p, .c true, .p, .p] [(59, .bool y66), (60, .bool true), (61, .int .i64 a0), (62, .slice A1z a1.length c1z)] [((bif y66 == true then 0 else -1), 1)] trivial ⟨(bndEq hc68), trivial⟩ (by kernel_rfl) (by kernel_rfl) (by kernel_rfl) ?_
            replace H := bind_some H
            obtain ⟨y69, hy70, H⟩ := H
            refine o_eff 21 _ rfl (by kernel_rfl) ?_
            refine e_callf _ _ _ 21 #[] #[] #[.int .i64 a0, .slice A1z a1.length c1z] #[.int .i64 a0, .slice A1z a1.length c1z] rfl (by kernel_rfl) (by kernel_rfl) (by kernel_rfl) (enter21 _) (state_Check_calls a0 A1z c1z a1 (memOf _) _ (Inv.start _) (hI.rd hr1z) hl1z _ hy70) ?_
            rintro _ _ ⟨rfl, hI'⟩
            replace hI := hI.call0 hI'
            clear hI'
            refine ⟨_, rfl, ?_⟩
            refine o_batch 22 [] [.p, .p] [(64, .int .i64 a0), (65, .slice A1z a1.length c1z)] [] trivial trivial (by kernel_rfl) (by kernel_rfl) (by kernel_rfl) ?_
            replace H := bind_some H
            obtain ⟨y71, hy72, H⟩ := H
            refine o_eff 24 _ rfl (by kernel_rfl) ?_
            refine e_callf _ _ _ 22 #[] #[] #[.int .i64 a0, .slice A1z a1.length c1z] #[.int .i64 a0, .slice A1z a1.length c1z] rfl (by kernel_rfl) (by kernel_rfl) (by kernel_rfl) (enter22 _) (assizeref08zCheck_calls a0 A1z c1z a1 (memOf _) _ (Inv.start _) (hI.rd hr1z) hl1z _ hy72) ?_
            rintro _ _ ⟨rfl, hI'⟩
            replace hI := hI.call0 hI'
            clear hI'
            refine ⟨_, rfl, ?_⟩
            refine o_batch 25 [] [.p, .p, .p] [(67, .bool (y69 == y71)), (68, .bool (y69 == y71)), (6, .bool (y69 == y71))] [] trivial trivial (by kernel_rfl) (by kernel_rfl) (by kernel_rfl) ?_
            refine r_out (by kernel_rfl) ?_
            replace H := Option.some.inj H
            subst H
            exact go_return (.bool (y69 == y71)) Try.func4 (by kernel_rfl) ⟨rfl, hI.pick [] (by decide) rfl⟩
          · refine o_batch 17 [] [.p, .c false, .p, .p, .p, .p, .p, .p, .p, .p, .p] [(59, .bool y66), (60, .bool false), (61, undef), (62, undef), (63, undef), (64, undef), (65, undef), (66, undef), (67, undef), (68, .bool false), (6, .bool false)] [((bif y66 == false then 0 else -1), 1)] trivial ⟨(bndEq hc68), trivial⟩ (by kernel_rfl) (by kernel_rfl) (by kernel_rfl) ?_
            refine r_out (by kernel_rfl) ?_
            replace H := Option.some.inj H
            subst H
            exact go_return (.bool false) Try.func4 (by kernel_rfl) ⟨rfl, hI.pick [] (by decide) rfl⟩
        · refine o_batch 7 [] [.p, .c true, .p, .p, .p, .p, .c false, .p, .p, .p, .p, .p, .p, .p, .p, .p, .p, .p, .p, .p, .p] [(49, .bool y62), (50, .bool true), (51, .int .i64 y37.2), (52, .int .i64 y45.2), (53, .bool (y37.2 == y45.2)), (54, .bool (y37.2 == y45.2)), (55, .bool false), (56, undef), (57, undef), (58, undef), (59, .bool false), (60, .bool false), (61, undef), (62, undef), (63, undef), (64, undef), (65, undef), (66, undef), (67, undef), (68, .bool false), (6, .bool false)] [((bif y62 == true then 0 else -1), 1), ((bif (y37.2 == y45.2) == false then 0 else -1), 1)] trivial ⟨(bndEq hc64), (bndEq hc65), trivial⟩ (by kernel_rfl) (by kernel_rfl) (by kernel_rfl) ?_
          refine r_out (by kernel_rfl) ?_
          replace H := Option.some.inj H
          subst H
          exact go_return (.bool false) Try.func4 (by kernel_rfl) ⟨rfl, hI.pick [] (by decide) rfl⟩
      · refine o_batch 7 [] [.p, .c false, .p, .p, .p, .p, .p, .p, .p, .p, .p, .p, .p, .p, .p, .p, .p, .p, .p, .p, .p] [(49, .bool y62), (50, .bool false), (51, undef), (52, undef), (53, undef), (54, .bool false), (55, .bool false), (56, undef), (57, undef), (58, undef), (59, .bool false), (60, .bool false), (61, undef), (62, undef), (63, undef), (64, undef), (65, undef), (66, undef), (67, undef), (68, .bool false), (6, .bool false)] [((bif y62 == false then 0 else -1), 1)] trivial ⟨(bndEq hc64), trivial⟩ (by kernel_rfl) (by kernel_rfl) (by kernel_rfl) ?_
        refine r_out (by kernel_rfl) ?_
        replace H := Option.some.inj H
        subst H
        exact go_return (.bool false) Try.func4 (by kernel_rfl) ⟨rfl, hI.pick [] (by decide) rfl⟩
    · refine o_batch 0 [] [.p, .p, .p, .c false, .p, .p, .p, .p, .p, .p, .p, .p, .p, .p, .p, .p, .p, .p, .p, .p, .p, .p, .p, .p, .p, .p, .p, .p] [(42, .int .i64 y21.2), (43, .int .i64 y29.2), (44, .bool (y21.2 == y29.2)), (45, .bool false), (46, undef), (47, undef), (48, undef), (49, .bool false), (50, .bool false), (51, undef), (52, undef), (53, undef), (54, .bool false), (55, .bool false), (56, undef), (57, undef), (58, undef), (59, .bool false), (60, .bool false), (61, undef), (62, undef), (63, undef), (64, undef), (65, undef), (66, undef), (67, undef), (68, .bool false), (6, .bool false)] [((bif (y21.2 == y29.2) == false then 0 else -1), 1)] trivial ⟨(bndEq hc61), trivial⟩ (by kernel_rfl) (by kernel_rfl) (by kernel_rfl) ?_
      refine r_out (by kernel_rfl) ?_
      replace H := Option.some.inj H
      subst H
      exact go_return (.bool false) Try.func4 (by kernel_rfl) ⟨rfl, hI.pick [] (by decide) rfl⟩

/-! ### state.Fold -/
theorem enter23 (a : Array Value) : Sem.pureRun Try.prog (callFunc 23 a) = some (.enter 23 a) := by kernel_rfl
theorem state_Fold_calls (a0 : Int) (A1z : Option Addr) (c1z : Nat) (a1 : List Int) (M : Mem) (w : World) (hI : Inv M w []) (hr1z : rdS (tInt .i64) M.blk A1z a1) (hl1z : a1.length ≤ c1z) (r : List Int × Int) (H : state_Fold a0 a1 = some r) :
    Calls Try.prog 23 #[.int .i64 a0, .slice A1z a1.length c1z] w fun e w' => ∃ (A211 : Option Addr) (c212 : Nat), e = .returned (.tuple #[.slice A211 r.1.length c212, .int .i64 r.2]) ∧ Inv M w' [.row (tInt .i64) 2 A211 r.1.length c212 r.1] := by
  refine calls_go (updL (fun _ => undef) [(0, .int .i64 a0), (1, .slice A1z a1.length c1z)]) Try.func23 rfl (by kernel_rfl) ?_
  intro cs
  unfold state_Fold at H
  refine go_seq ?_
  refine r_in ?_
  refine o_batch 0 [] [.p, .p] [(4, .slice none 0 0), (5, .int .i64 0)] [] trivial trivial (by kernel_rfl) (by kernel_rfl) (by kernel_rfl) ?_
  refine r_out (by kernel_rfl) ?_
  refine go_seq ?_
  refine r_in ?_
  refine o_batch 0 [] [.p] [(11, .int .i64 a0)] [] trivial trivial (by kernel_rfl) (by kernel_rfl) (by kernel_rfl) ?_
  replace H := bind_some H
  obtain ⟨y5, hy6, H⟩ := H
  refine o_eff 1 _ rfl (by kernel_rfl) ?_
  refine e_callf _ _ _ 19 #[] #[] #[.int .i64 a0] #[.int .i64 a0] rfl (by kernel_rfl) (by kernel_rfl) (by kernel_rfl) (enter19 _) (state_Start_calls a0 (memOf _) _ (Inv.start _) _ hy6) ?_
  rintro _ _ ⟨A7, c8, rfl, hI'⟩
  replace hI := hI.call0 hI'
  clear hI'
  refine ⟨_, rfl, ?_⟩
  refine o_batch 2 [] [.p, .p, .p, .p, .p] [(10, .tuple #[.slice A7 y5.1.length c8, .int .i64 y5.2]), (13, .slice A7 y5.1.length c8), (14, .int .i64 y5.2), (6, .slice A7 y5.1.length c8), (7, .int .i64 y5.2)] [] trivial trivial (by kernel_rfl) (by kernel_rfl) (by kernel_rfl) ?_
  refine r_out (by kernel_rfl) ?_
  refine go_seq ?_
  refine go_seq ?_
  refine r_in ?_
  refine o_batch 0 [] [.p, .p, .p] [(15, .slice A1z a1.length c1z), (16, .int .i64 (a1.length : Int)), (17, .int .i64 0)] [] trivial trivial (by kernel_rfl) (by kernel_rfl) (by kernel_rfl) ?_
  refine r_out (by kernel_rfl) ?_
  refine go_block_join (o := r) (fun (l127, x130) f w => ∃ (j : Nat → Value) (A128 : Option Addr) (c129 : Nat), f = updL j [(6, .slice A128 l127.length c129), (7, .int .i64 x130)] ∧ Inv M w [.row (tInt .i64) 2 A128 l127.length c129 l127]) (fun (l127, x130) => state_Fold.j1 l127 x130) ?_ (fun hJ131 => ?_)
  · clear H hI
    rintro ⟨l127, x130⟩ _ _ ⟨_, A128, c129, rfl, hI⟩ H
    refine go_seq ?_
    refine r_in ?_
    refine o_batch 0 [] [.p, .p, .p, .p] [(31, .slice A128 l127.length c129), (32, .int .i64 x130), (4, .slice A128 l127.length c129), (5, .int .i64 x130)] [] trivial trivial (by kernel_rfl) (by kernel_rfl) (by kernel_rfl) ?_
    refine r_out (by kernel_rfl) ?_
    replace H := Option.some.inj H
    subst H
    exact go_return (.tuple #[.slice A128 l127.length c129, .int .i64 x130]) Try.func23 (by kernel_rfl) ⟨A128, c129, rfl, hI⟩
  · refine go_iter (state_Fold.s2 a0 a1) (fun (l175, x178, x179) f w => ∃ (j : Nat → Value) (A176 : Option Addr) (c177 : Nat), f = updL j [(0, .int .i64 a0), (6, .slice A176 l175.length c177), (7, .int .i64 x178), (15, .slice A1z a1.length c1z), (16, .int .i64 (a1.length : Int)), (17, .int .i64 x179)] ∧ Inv M w [.row (tInt .i64) 2 A176 l175.length c177 l175]) H ⟨_, A7, c8, at_slots _ (by kernel_rfl), hI⟩ ?_
    clear H hI
    rintro ⟨l175, x178, x179⟩ _ _ o1 H ⟨_, A176, c177, rfl, hI⟩ hin1 hout1
    refine go_seq ?_
    refine r_in ?_
    refine o_batch 0 [] [.p] [(18, .bool (decide (x179 < (a1.length : Int))))] [] trivial trivial (by kernel_rfl) (by kernel_rfl) (by kernel_rfl) ?_
    refine r_out (by kernel_rfl) ?_
    refine go_seq ?_
    replace H := cond_some H
    rcases H with ⟨hc181, H⟩ | ⟨hc181, H⟩
    · refine go_then' (t := decide (x179 < (a1.length : Int))) (by kernel_rfl) hc181 ?_
      refine go_skip ?_
      refine go_seq ?_
      refine go_block ?_
      refine go_seq ?_
      refine r_in ?_
      replace H := must_some H
      obtain ⟨g201, H⟩ := H
      obtain ⟨b202, q203, rfl, _⟩ := rdS.fopen hr1z rfl g201
      refine o_batch 0 [(b202, q203 + x179.toNat * 1, [.int .i64 (idx a1 x179)])] [.x, .l 0 0, .p] [(19, .pointer (some ⟨b202, q203 + x179.toNat * 1, none⟩)), (20, .int .i64 (idx a1 x179)), (9, .int .i64 (idx a1 x179))] [(x179, a1.length)] ⟨(hI.lies (rdS.flook hr1z rfl g201)), trivial⟩ ⟨g201, trivial⟩ (by kernel_rfl) (by kernel_rfl) (by kernel_rfl) ?_
      refine r_out (by kernel_rfl) ?_
      refine go_seq ?_
      refine go_seq ?_
      refine r_in ?_
      refine o_batch 0 [] [.p, .p] [(21, .int .i64 x178), (22, .bool (x178 != 0))] [] trivial trivial (by kernel_rfl) (by kernel_rfl) (by kernel_rfl) ?_
      refine r_out (by kernel_rfl) ?_
      replace H := cond_some H
      rcases H with ⟨hc205, H⟩ | ⟨hc205, H⟩
      · refine go_then' (t := (x178 != 0)) (by kernel_rfl) hc205 ?_
        refine go_exit rfl ?_
        replace H := out_some H
        obtain ⟨_, H, he1⟩ := H
        have he := (hout1 _ he1).symm
        subst he
        exact hJ131 (l175, x178) _ _ ⟨_, A176, c177, at_slots _ (by kernel_rfl), hI⟩ H
      · refine go_else' (t := (x178 != 0)) (by kernel_rfl) hc205 ?_
        refine go_skip ?_
        refine r_in ?_
        refine o_batch 0 [] [.p, .p, .p] [(24, .int .i64 a0), (25, .slice A176 l175.length c177), (26, .int .i64 (idx a1 x179))] [] trivial trivial (by kernel_rfl) (by kernel_rfl) (by kernel_rfl) ?_
        replace H := bind_some H
        obtain ⟨y206, hy207, H⟩ := H
        refine o_eff 3 _ rfl (by kernel_rfl) ?_
        refine e_callf _ _ _ 15 #[] #[] #[.int .i64 a0, .slice A176 l175.length c177, .int .i64 (idx a1 x179)] #[.int .i64 a0, .slice A176 l175.length c177, .int .i64 (idx a1 x179)] rfl (by kernel_rfl) (by kernel_rfl) (by kernel_rfl) (enter15 _) (state_Apply_calls a0 A176 c177 l175 (idx a1 x179) (memOf _) _ (Inv.start _) (hI.row 0 rfl) (hI.rowle 0 rfl) _ hy207) ?_
        rintro _ _ ⟨A208, c209, rfl, hI'⟩
        replace hI := hI.call0 hI'
        clear hI'
        refine ⟨_, rfl, ?_⟩
        refine o_batch 4 [] [.p, .p, .p, .p, .p] [(23, .tuple #[.slice A208 y206.1.length c209, .int .i64 y206.2]), (28, .slice A208 y206.1.length c209), (29, .int .i64 y206.2), (6, .slice A208 y206.1.length c209), (7, .int .i64 y206.2)] [] trivial trivial (by kernel_rfl) (by kernel_rfl) (by kernel_rfl) ?_
        refine r_out (by kernel_rfl) ?_
        refine go_inBlock ?_
        refine r_in ?_
        refine o_batch 0 [] [.p, .p] [(30, .int .i64 (w64 (x179 + 1))), (17, .int .i64 (w64 (x179 + 1)))] [] trivial trivial (by kernel_rfl) (by kernel_rfl) (by kernel_rfl) ?_
        refine r_out (by kernel_rfl) ?_
        exact hin1 _ (Option.some.inj H).symm _ _ ⟨_, A208, c209, at_slots _ (by kernel_rfl), hI.pick [1] (by decide) rfl⟩
    · refine go_else' (t := decide (x179 < (a1.length : Int))) (by kernel_rfl) hc181 ?_
      refine go_exit rfl ?_
      replace H := out_some H
      obtain ⟨_, H, he1⟩ := H
      have he := (hout1 _ he1).symm
      subst he
      exact hJ131 (l175, x178) _ _ ⟨_, A176, c177, at_slots _ (by kernel_rfl), hI⟩ H

/-! ### assizeref08.Fold -/
theorem enter24 (a : Array Value) : Sem.pureRun Try.prog (callFunc 24 a) = some (.enter 24 a) := by kernel_rfl
theorem assizeref08zFold_calls (a0 : Int) (A1z : Option Addr) (c1z : Nat) (a1 : List Int) (M : Mem) (w : World) (hI : Inv M w []) (hr1z : rdS (tInt .i64) M.blk A1z a1) (hl1z : a1.length ≤ c1z) (r : List Int × Int) (H : assizeref08zFold a0 a1 = some r) :
    Calls Try.prog 24 #[.int .i64 a0, .slice A1z a1.length c1z] w fun e w' => ∃ (A211 : Option Addr) (c212 : Nat), e = .returned (.tuple #[.slice A211 r.1.length c212, .int .i64 r.2]) ∧ Inv M w' [.row (tInt .i64) 2 A211 r.1.length c212 r.1] := by
  refine calls_go (updL (fun _ => undef) [(0, .int .i64 a0), (1, .slice A1z a1.length c1z)]) Try.func24 rfl (by kernel_rfl) ?_
  intro cs
  unfold assizeref08zFold at H
  refine go_seq ?_
  refine r_in ?_
  refine o_batch 0 [] [.p, .p] [(4, .slice none 0 0), (5, .int .i64 0)] [] trivial trivial (by kernel_rfl) (by kernel_rfl) (by kernel_rfl) ?_
  refine r_out (by kernel_rfl) ?_
  refine go_seq ?_
  refine r_in ?_
  refine o_batch 0 [] [.p] [(10, .int .i64 a0)] [] trivial trivial (by kernel_rfl) (by kernel_rfl) (by kernel_rfl) ?_
  replace H := bind_some H
  obtain ⟨y5, hy6, H⟩ := H
  refine o_eff 1 _ rfl (by kernel_rfl) ?_
  refine e_callf _ _ _ 20 #[] #[] #[.int .i64 a0] #[.int .i64 a0] rfl (by kernel_rfl) (by kernel_rfl) (by kernel_rfl) (enter20 _) (assizeref08zStart_calls a0 (memOf _) _ (Inv.start _) _ hy6) ?_
  rintro _ _ ⟨A7, c8, rfl, hI'⟩
  replace hI := hI.call0 hI'
  clear hI'
  refine ⟨_, rfl, ?_⟩
  refine o_batch 2 [] [.p, .p, .p, .p, .p] [(9, .tuple #[.slice A7 y5.1.length c8, .int .i64 y5.2]), (12, .slice A7 y5.1.length c8), (13, .int .i64 y5.2), (6, .slice A7 y5.1.length c8), (7, .int .i64 y5.2)] [] trivial trivial (by kernel_rfl) (by kernel_rfl) (by kernel_rfl) ?_
  refine r_out (by kernel_rfl) ?_
  refine go_seq ?_
  refine go_seq ?_
  refine r_in ?_
  refine o_batch 0 [] [.p] [(8, .int .i64 0)] [] trivial trivial (by kernel_rfl) (by kernel_rfl) (by kernel_rfl) ?_
  refine r_out (by kernel_rfl) ?_
  refine go_block ?_
  refine go_iter (assizeref08zFold.s1 a0 a1) (fun (l174, x177, x178) f w => ∃ (j : Nat → Value) (A175 : Option Addr) (c176 : Nat), f = updL j [(0, .int .i64 a0), (1, .slice A1z a1.length c1z), (6, .slice A175 l174.length c176), (7, .int .i64 x177), (8, .int .i64 x178)] ∧ Inv M w [.row (tInt .i64) 2 A175 l174.length c176 l174]) H ⟨_, A7, c8, at_slots _ (by kernel_rfl), hI⟩ ?_
  clear H hI
  rintro ⟨l174, x177, x178⟩ _ _ o1 H ⟨_, A175, c176, rfl, hI⟩ hin1 hout1
  refine go_seq ?_
  refine go_seq_join (o := o1) (fun b183 f w => ∃ (j : Nat → Value), f = updL j [(0, .int .i64 a0), (1, .slice A1z a1.length c1z), (6, .slice A175 l174.length c176), (7, .int .i64 x177), (8, .int .i64 x178), (21, .bool b183)] ∧ Inv M w [.row (tInt .i64) 2 A175 l174.length c176 l174]) (fun b183 => assizeref08zFold.j2 a0 a1 l174 x177 x178 b183) ?_ (fun hJ184 => ?_)
  · clear H hI
    rintro b183 _ _ ⟨_, rfl, hI⟩ H
    replace H := cond_some H
    rcases H with ⟨hc185, H⟩ | ⟨hc185, H⟩
    · refine go_then' (t := b183) (by kernel_rfl) hc185 ?_
      refine go_skip ?_
      refine go_seq ?_
      refine go_block ?_
      refine r_in ?_
      replace H := must_some H
      obtain ⟨g200, H⟩ := H
      obtain ⟨b201, q202, rfl, _⟩ := rdS.fopen hr1z rfl g200
      refine o_batch 0 [(b201, q202 + x178.toNat * 1, [.int .i64 (idx a1 x178)])] [.p, .p, .p, .p, .x, .l 0 0] [(25, .int .i64 a0), (26, .slice A175 l174.length c176), (27, .slice (some ⟨b201, q202, none⟩) a1.length c1z), (28, .int .i64 x178), (29, .pointer (some ⟨b201, q202 + x178.toNat * 1, none⟩)), (30, .int .i64 (idx a1 x178))] [(x178, a1.length)] ⟨(hI.lies (rdS.flook hr1z rfl g200)), trivial⟩ ⟨g200, trivial⟩ (by kernel_rfl) (by kernel_rfl) (by kernel_rfl) ?_
      replace H := bind_some H
      obtain ⟨y203, hy204, H⟩ := H
      refine o_eff 6 _ rfl (by kernel_rfl) ?_
      refine e_callf _ _ _ 17 #[] #[] #[.int .i64 a0, .slice A175 l174.length c176, .int .i64 (idx a1 x178)] #[.int .i64 a0, .slice A175 l174.length c176, .int .i64 (idx a1 x178)] rfl (by kernel_rfl) (by kernel_rfl) (by kernel_rfl) (enter17 _) (assizeref08zApply_calls a0 A175 c176 l174 (idx a1 x178) (memOf _) _ (Inv.start _) (hI.row 0 rfl) (hI.rowle 0 rfl) _ hy204) ?_
      rintro _ _ ⟨A205, c206, rfl, hI'⟩
      replace hI := hI.call0 hI'
      clear hI'
      refine ⟨_, rfl, ?_⟩
      refine o_batch 7 [] [.p, .p, .p, .p, .p] [(24, .tuple #[.slice A205 y203.1.length c206, .int .i64 y203.2]), (32, .slice A205 y203.1.length c206), (33, .int .i64 y203.2), (6, .slice A205 y203.1.length c206), (7, .int .i64 y203.2)] [] trivial trivial (by kernel_rfl) (by kernel_rfl) (by kernel_rfl) ?_
      refine r_out (by kernel_rfl) ?_
      refine go_inBlock ?_
      refine r_in ?_
      refine o_batch 0 [] [.p, .p, .p] [(22, .int .i64 x178), (23, .int .i64 (w64 (x178 + 1))), (8, .int .i64 (w64 (x178 + 1)))] [] trivial trivial (by kernel_rfl) (by kernel_rfl) (by kernel_rfl) ?_
      refine r_out (by kernel_rfl) ?_
      exact hin1 _ (Option.some.inj H).symm _ _ ⟨_, A205, c206, at_slots _ (by kernel_rfl), hI.pick [1] (by decide) rfl⟩
    · refine go_else' (t := b183) (by kernel_rfl) hc185 ?_
      refine go_exit rfl ?_
      refine go_seq ?_
      refine go_seq ?_
      refine r_in ?_
      refine o_batch 0 [] [.p, .p] [(34, .int .i64 x177), (35, .bool (x177 != 0))] [] trivial trivial (by kernel_rfl) (by kernel_rfl) (by kernel_rfl) ?_
      refine r_out (by kernel_rfl) ?_
      replace H := cond_some H
      rcases H with ⟨hc208, H⟩ | ⟨hc208, H⟩
      · refine go_then' (t := (x177 != 0)) (by kernel_rfl) hc208 ?_
        refine go_seq ?_
        refine r_in ?_
        refine o_batch 0 [] [.p, .p, .p] [(36, .int .i64 x177), (4, .slice none 0 0), (5, .int .i64 x177)] [] trivial trivial (by kernel_rfl) (by kernel_rfl) (by kernel_rfl) ?_
        refine r_out (by kernel_rfl) ?_
        replace H := out_some H
        obtain ⟨_, H, he1⟩ := H
        have he := (hout1 _ he1).symm
        subst he
        replace H := Option.some.inj H
        subst H
        exact go_return (.tuple #[.slice none 0 0, .int .i64 x177]) Try.func24 (by kernel_rfl) ⟨none, 0, rfl, (hI.nilrow (tInt .i64) 2).pick [1] (by decide) rfl⟩
      · refine go_else' (t := (x177 != 0)) (by kernel_rfl) hc208 ?_
        refine go_skip ?_
        refine go_seq ?_
        refine r_in ?_
        refine o_batch 0 [] [.p, .p, .p] [(37, .slice A175 l174.length c176), (4, .slice A175 l174.length c176), (5, .int .i64 0)] [] trivial trivial (by kernel_rfl) (by kernel_rfl) (by kernel_rfl) ?_
        refine r_out (by kernel_rfl) ?_
        replace H := out_some H
        obtain ⟨_, H, he1⟩ := H
        have he := (hout1 _ he1).symm
        subst he
        replace H := Option.some.inj H
        subst H
        exact go_return (.tuple #[.slice A175 l174.length c176, .int .i64 0]) Try.func24 (by kernel_rfl) ⟨A175, c176, rfl, hI⟩
  · refine r_in ?_
    replace H := cond_some H
    rcases H with ⟨hc209, H⟩ | ⟨hc209, H⟩
    · refine o_batch 0 [] [.p, .p, .p, .p, .c true, .p, .p, .p] [(14, .int .i64 x178), (15, .slice A1z a1.length c1z), (16, .int .i64 (a1.length : Int)), (17, .bool (decide (x178 < (a1.length : Int)))), (18, .bool true), (19, .int .i64 x177), (20, .bool (x177 == 0)), (21, .bool (x177 == 0))] [((bif (decide (x178 < (a1.length : Int))) == true then 0 else -1), 1)] trivial ⟨(bndEq hc209), trivial⟩ (by kernel_rfl) (by kernel_rfl) (by kernel_rfl) ?_
      refine r_out (by kernel_rfl) ?_
      exact hJ184 (x177 == 0) _ _ ⟨_, at_slots _ (by kernel_rfl), hI⟩ H
    · refine o_batch 0 [] [.p, .p, .p, .p, .c false, .p, .p, .p] [(14, .int .i64 x178), (15, .slice A1z a1.length c1z), (16, .int .i64 (a1.length : Int)), (17, .bool (decide (x178 < (a1.length : Int)))), (18, .bool false), (19, undef), (20, undef), (21, .bool false)] [((bif (decide (x178 < (a1.length : Int))) == false then 0 else -1), 1)] trivial ⟨(bndEq hc209), trivial⟩ (by kernel_rfl) (by kernel_rfl) (by kernel_rfl) ?_
      refine r_out (by kernel_rfl) ?_
      exact hJ184 false _ _ ⟨_, at_slots _ (by kernel_rfl), hI⟩ H

/-! ### assizeref08.in -/
theorem enter40 (a : Array Value) : Sem.pureRun Try.prog (callFunc 40 a) = some (.enter 40 a) := by kernel_rfl
theorem assizeref08zin_calls (A0z : Option Addr) (c0z : Nat) (a0 : List Int) (a1 : Int) (M : Mem) (w : World) (hI : Inv M w []) (hr0z : rdS (tInt .i64) M.blk A0z a0) (hl0z : a0.length ≤ c0z) (r : Bool) (H : assizeref08zin a0 a1 = some r) :
    Calls Try.prog 40 #[.slice A0z a0.length c0z, .int .i64 a1] w fun e w' => e = .returned (.bool r) ∧ Inv M w' [] := by
  refine calls_go (updL (fun _ => undef) [(0, .slice A0z a0.length c0z), (1, .int .i64 a1)]) Try.func40 rfl (by kernel_rfl) ?_
  intro cs
  unfold assizeref08zin at H
  refine go_seq ?_
  refine r_in ?_
  refine o_batch 0 [] [.p] [(4, .bool false)] [] trivial trivial (by kernel_rfl) (by kernel_rfl) (by kernel_rfl) ?_
  refine r_out (by kernel_rfl) ?_
  refine go_seq ?_
  refine go_seq ?_
  refine r_in ?_
  refine o_batch 0 [] [.p] [(5, .int .i64 0)] [] trivial trivial (by kernel_rfl) (by kernel_rfl) (by kernel_rfl) ?_
  refine r_out (by kernel_rfl) ?_
  refine go_block ?_
  refine go_iter (assizeref08zin.s1 a0 a1) (fun x58 f w => ∃ (j : Nat → Value), f = updL j [(0, .slice A0z a0.length c0z), (1, .int .i64 a1), (5, .int .i64 x58)] ∧ Inv M w []) H ⟨_, at_slots _ (by kernel_rfl), hI⟩ ?_
  clear H hI
  rintro x58 _ _ o1 H ⟨_, rfl, hI⟩ hin1 hout1
  refine go_seq ?_
  refine go_seq ?_
  refine r_in ?_
  refine o_batch 0 [] [.p, .p, .p, .p] [(6, .int .i64 x58), (7, .slice A0z a0.length c0z), (8, .int .i64 (a0.length : Int)), (9, .bool (decide (x58 < (a0.length : Int))))] [] trivial trivial (by kernel_rfl) (by kernel_rfl) (by kernel_rfl) ?_
  refine r_out (by kernel_rfl) ?_
  replace H := cond_some H
  rcases H with ⟨hc60, H⟩ | ⟨hc60, H⟩
  · refine go_then' (t := decide (x58 < (a0.length : Int))) (by kernel_rfl) hc60 ?_
    refine go_skip ?_
    refine go_seq ?_
    refine go_block ?_
    refine go_seq ?_
    refine r_in ?_
    replace H := must_some H
    obtain ⟨g72, H⟩ := H
    obtain ⟨b73, q74, rfl, _⟩ := rdS.fopen hr0z rfl g72
    refine o_batch 0 [(b73, q74 + x58.toNat * 1, [.int .i64 (idx a0 x58)])] [.p, .p, .x, .l 0 0, .p, .p] [(12, .slice (some ⟨b73, q74, none⟩) a0.length c0z), (13, .int .i64 x58), (14, .pointer (some ⟨b73, q74 + x58.toNat * 1, none⟩)), (15, .int .i64 (idx a0 x58)), (16, .int .i64 a1), (17, .bool (idx a0 x58 == a1))] [(x58, a0.length)] ⟨(hI.lies (rdS.flook hr0z rfl g72)), trivial⟩ ⟨g72, trivial⟩ (by kernel_rfl) (by kernel_rfl) (by kernel_rfl) ?_
    refine r_out (by kernel_rfl) ?_
    replace H := cond_some H
    rcases H with ⟨hc75, H⟩ | ⟨hc75, H⟩
    · refine go_then' (t := (idx a0 x58 == a1)) (by kernel_rfl) hc75 ?_
      refine go_seq ?_
      refine r_in ?_
      refine o_batch 0 [] [.p] [(4, .bool true)] [] trivial trivial (by kernel_rfl) (by kernel_rfl) (by kernel_rfl) ?_
      refine r_out (by kernel_rfl) ?_
      replace H := out_some H
      obtain ⟨_, H, he1⟩ := H
      have he := (hout1 _ he1).symm
      subst he
      replace H := Option.some.inj H
      subst H
      exact go_return (.bool true) Try.func40 (by kernel_rfl) ⟨rfl, hI⟩
    · refine go_else' (t := (idx a0 x58 == a1)) (by kernel_rfl) hc75 ?_
      refine go_skip ?_
      refine go_inBlock ?_
      refine r_in ?_
      refine o_batch 0 [] [.p, .p, .p] [(10, .int .i64 x58), (11, .int .i64 (w64 (x58 + 1))), (5, .int .i64 (w64 (x58 + 1)))] [] trivial trivial (by kernel_rfl) (by kernel_rfl) (by kernel_rfl) ?_
      refine r_out (by kernel_rfl) ?_
      exact hin1 _ (Option.some.inj H).symm _ _ ⟨_, at_slots _ (by kernel_rfl), hI⟩
  · refine go_else' (t := decide (x58 < (a0.length : Int))) (by kernel_rfl) hc60 ?_
    refine go_exit rfl ?_
    refine go_seq ?_
    refine r_in ?_
    refine o_batch 0 [] [.p] [(4, .bool false)] [] trivial trivial (by kernel_rfl) (by kernel_rfl) (by kernel_rfl) ?_
    refine r_out (by kernel_rfl) ?_
    replace H := out_some H
    obtain ⟨_, H, he1⟩ := H
    have he := (hout1 _ he1).symm
    subst he
    replace H := Option.some.inj H
    subst H
    exact go_return (.bool false) Try.func40 (by kernel_rfl) ⟨rfl, hI⟩

/-! ### assizeref08.Before -/
theorem enter25 (a : Array Value) : Sem.pureRun Try.prog (callFunc 25 a) = some (.enter 25 a) := by kernel_rfl
theorem assizeref08zBefore_calls (a0 : Int) (A1z : Option Addr) (c1z : Nat) (a1 : List Int) (A2z : Option Addr) (c2z : Nat) (a2 : List Int) (M : Mem) (w : World) (hI : Inv M w []) (hr1z : rdS (tInt .i64) M.blk A1z a1) (hl1z : a1.length ≤ c1z) (hr2z : rdS (tInt .i64) M.blk A2z a2) (hl2z : a2.length ≤ c2z) (r : List Int × Bool) (H : assizeref08zBefore a0 a1 a2 = some r) :
    Calls Try.prog 25 #[.int .i64 a0, .slice A1z a1.length c1z, .slice A2z a2.length c2z] w fun e w' => ∃ (A844 : Option Addr) (c845 : Nat), e = .returned (.tuple #[.slice A844 r.1.length c845, .bool r.2]) ∧ Inv M w' [.row (tInt .i64) 2 A844 r.1.length c845 r.1] := by
  refine calls_go (updL (fun _ => undef) [(0, .int .i64 a0), (1, .slice A1z a1.length c1z), (2, .slice A2z a2.length c2z)]) Try.func25 rfl (by kernel_rfl) ?_
  intro cs
  unfold assizeref08zBefore at H
  refine go_seq ?_
  refine r_in ?_
  refine o_batch 0 [] [.p, .p] [(6, .slice none 0 0), (7, .bool false)] [] trivial trivial (by kernel_rfl) (by kernel_rfl) (by kernel_rfl) ?_
  refine r_out (by kernel_rfl) ?_
  refine go_seq ?_
  refine r_in ?_
  refine o_batch 0 [] [.p, .p, .p] [(15, .slice A2z a2.length c2z), (16, .int .i64 (a2.length : Int)), (8, .int .i64 (a2.length : Int))] [] trivial trivial (by kernel_rfl) (by kernel_rfl) (by kernel_rfl) ?_
  refine r_out (by kernel_rfl) ?_
  refine go_seq ?_
  refine go_seq_join (o := r) (fun b9 f w => ∃ (j : Nat → Value), f = updL j [(0, .int .i64 a0), (1, .slice A1z a1.length c1z), (2, .slice A2z a2.length c2z), (8, .int .i64 (a2.length : Int)), (24, .bool b9)] ∧ Inv M w []) (fun b9 => assizeref08zBefore.j1 a0 a1 a2 b9) ?_ (fun hJ10 => ?_)
  · clear H hI
    rintro b9 _ _ ⟨_, rfl, hI⟩ H
    replace H := cond_some H
    rcases H with ⟨hc11, H⟩ | ⟨hc11, H⟩
    · refine go_then' (t := b9) (by kernel_rfl) hc11 ?_
      refine go_seq ?_
      refine r_in ?_
      refine o_batch 0 [] [.p, .p] [(6, .slice none 0 0), (7, .bool false)] [] trivial trivial (by kernel_rfl) (by kernel_rfl) (by kernel_rfl) ?_
      refine r_out (by kernel_rfl) ?_
      replace H := Option.some.inj H
      subst H
      exact go_return (.tuple #[.slice none 0 0, .bool false]) Try.func25 (by kernel_rfl) ⟨none, 0, rfl, (hI.nilrow (tInt .i64) 2)⟩
    · refine go_else' (t := b9) (by kernel_rfl) hc11 ?_
      refine go_skip ?_
      refine go_seq ?_
      refine go_seq ?_
      refine r_in ?_
      refine o_batch 0 [] [.p] [(25, .int .i64 a0)] [] trivial trivial (by kernel_rfl) (by kernel_rfl) (by kernel_rfl) ?_
      refine r_out (by kernel_rfl) ?_
      refine go_block ?_
      refine go_seq ?_
      refine r_in ?_
      refine o_batch 0 [] [.p, .p] [(27, .bool (a0 == 1)), (26, .bool (a0 == 1))] [] trivial trivial (by kernel_rfl) (by kernel_rfl) (by kernel_rfl) ?_
      refine r_out (by kernel_rfl) ?_
      replace H := cond_some H
      rcases H with ⟨hc170, H⟩ | ⟨hc170, H⟩
      · refine go_then' (t := (a0 == 1)) (by kernel_rfl) hc170 ?_
        refine go_seq ?_
        replace H := cond_some H
        rcases H with ⟨hc178, H⟩ | ⟨hc178, H⟩
        · replace H := must_some H
          obtain ⟨g179, H⟩ := H
          obtain ⟨b180, q181, rfl, _⟩ := rdS.fopen hr1z rfl g179
          replace H := must_some H
          obtain ⟨g182, H⟩ := H
          obtain ⟨b183, q184, rfl, _⟩ := rdS.fopen hr2z rfl g182
          refine d_still [(b180, q181 + (0 : Int).toNat * 1, [.int .i64 (idx a1 (0 : Int))]), (b183, q184 + (w64 ((a2.length : Int) - 1)).toNat * 1, [.int .i64 (idx a2 (w64 ((a2.length : Int) - 1)))])] [.p, .p, .p, .c true, .p, .x, .l 0 0, .p, .p, .p, .x, .l 1 0, .p, .p, .p, .p] [(28, .slice (some ⟨b180, q181, none⟩) a1.length c1z), (29, .int .i64 (a1.length : Int)), (30, .bool ((a1.length : Int) == 1)), (31, .bool true), (32, .slice (some ⟨b180, q181, none⟩) a1.length c1z), (33, .pointer (some ⟨b180, q181 + (0 : Int).toNat * 1, none⟩)), (34, .int .i64 (idx a1 (0 : Int))), (35, .slice (some ⟨b183, q184, none⟩) a2.length c2z), (36, .int .i64 (a2.length : Int)), (37, .int .i64 (w64 ((a2.length : Int) - 1))), (38, .pointer (some ⟨b183, q184 + (w64 ((a2.length : Int) - 1)).toNat * 1, none⟩)), (39, .int .i64 (idx a2 (w64 ((a2.length : Int) - 1)))), (40, .bool (idx a1 (0 : Int) == idx a2 (w64 ((a2.length : Int) - 1)))), (41, .bool (idx a1 (0 : Int) == idx a2 (w64 ((a2.length : Int) - 1)))), (6, .slice none 0 0), (7, .bool (idx a1 (0 : Int) == idx a2 (w64 ((a2.length : Int) - 1))))] [((bif ((a1.length : Int) == 1) == true then 0 else -1), 1), (0, a1.length), (w64 ((a2.length : Int) - 1), a2.length)] (by kernel_rfl) (by kernel_rfl) rfl ⟨(hI.lies (rdS.flook hr1z rfl g179)), (hI.lies (rdS.flook hr2z rfl g182)), trivial⟩ ⟨(bndEq hc178), g179, g182, trivial⟩ (by kernel_rfl) (by kernel_rfl) (by kernel_rfl) hI ?_
          clear hI
          intro _ hI
          replace H := Option.some.inj H
          subst H
          exact go_return (.tuple #[.slice none 0 0, .bool (idx a1 (0 : Int) == idx a2 (w64 ((a2.length : Int) - 1)))]) Try.func25 (by kernel_rfl) ⟨none, 0, rfl, (hI.nilrow (tInt .i64) 2)⟩
        · refine d_still [] [.p, .p, .p, .c false, .p, .p, .p, .p, .p, .p, .p, .p, .p, .p, .p, .p] [(28, .slice A1z a1.length c1z), (29, .int .i64 (a1.length : Int)), (30, .bool ((a1.length : Int) == 1)), (31, .bool false), (32, undef), (33, undef), (34, undef), (35, undef), (36, undef), (37, undef), (38, undef), (39, undef), (40, undef), (41, .bool false), (6, .slice none 0 0), (7, .bool false)] [((bif ((a1.length : Int) == 1) == false then 0 else -1), 1)] (by kernel_rfl) (by kernel_rfl) rfl trivial ⟨(bndEq hc178), trivial⟩ (by kernel_rfl) (by kernel_rfl) (by kernel_rfl) hI ?_
          clear hI
          intro _ hI
          replace H := Option.some.inj H
          subst H
          exact go_return (.tuple #[.slice none 0 0, .bool false]) Try.func25 (by kernel_rfl) ⟨none, 0, rfl, (hI.nilrow (tInt .i64) 2)⟩
      · refine go_else' (t := (a0 == 1)) (by kernel_rfl) hc170 ?_
        refine go_seq ?_
        refine r_in ?_
        refine o_batch 0 [] [.p, .p] [(43, .bool (a0 == 4)), (42, .bool (a0 == 4))] [] trivial trivial (by kernel_rfl) (by kernel_rfl) (by kernel_rfl) ?_
        refine r_out (by kernel_rfl) ?_
        replace H := cond_some H
        rcases H with ⟨hc185, H⟩ | ⟨hc185, H⟩
        · refine go_then' (t := (a0 == 4)) (by kernel_rfl) hc185 ?_
          refine go_seq ?_
          refine r_in ?_
          replace H := must_some H
          obtain ⟨g189, H⟩ := H
          obtain ⟨b190, q191, rfl, _⟩ := rdS.fopen hr1z rfl g189
          refine o_batch 0 [(b190, q191 + (0 : Int).toNat * 1, [.int .i64 (idx a1 (0 : Int))])] [.p, .x, .l 0 0, .p] [(44, .slice (some ⟨b190, q191, none⟩) a1.length c1z), (45, .pointer (some ⟨b190, q191 + (0 : Int).toNat * 1, none⟩)), (46, .int .i64 (idx a1 (0 : Int))), (9, .int .i64 (idx a1 (0 : Int)))] [(0, a1.length)] ⟨(hI.lies (rdS.flook hr1z rfl g189)), trivial⟩ ⟨g189, trivial⟩ (by kernel_rfl) (by kernel_rfl) (by kernel_rfl) ?_
          refine r_out (by kernel_rfl) ?_
          refine go_seq ?_
          refine go_seq ?_
          refine r_in ?_
          refine o_batch 0 [] [.p] [(10, .int .i64 0)] [] trivial trivial (by kernel_rfl) (by kernel_rfl) (by kernel_rfl) ?_
          refine r_out (by kernel_rfl) ?_
          refine go_block ?_
          refine go_iter (assizeref08zBefore.s2 a2) (fun (x258, x259) f w => ∃ (j : Nat → Value), f = updL j [(2, .slice A2z a2.length c2z), (8, .int .i64 (a2.length : Int)), (9, .int .i64 x258), (10, .int .i64 x259)] ∧ Inv M w []) H ⟨_, at_slots _ (by kernel_rfl), hI⟩ ?_
          clear H hI
          rintro ⟨x258, x259⟩ _ _ o1 H ⟨_, rfl, hI⟩ hin1 hout1
          refine go_seq ?_
          refine go_seq ?_
          refine r_in ?_
          refine o_batch 0 [] [.p, .p, .p] [(47, .int .i64 x259), (48, .int .i64 (a2.length : Int)), (49, .bool (decide (x259 < (a2.length : Int))))] [] trivial trivial (by kernel_rfl) (by kernel_rfl) (by kernel_rfl) ?_
          refine r_out (by kernel_rfl) ?_
          replace H := cond_some H
          rcases H with ⟨hc261, H⟩ | ⟨hc261, H⟩
          · refine go_then' (t := decide (x259 < (a2.length : Int))) (by kernel_rfl) hc261 ?_
            refine go_skip ?_
            refine go_seq ?_
            refine go_block ?_
            refine r_in ?_
            replace H := must_some H
            obtain ⟨g268, H⟩ := H
            obtain ⟨b269, q270, rfl, _⟩ := rdS.fopen hr2z rfl g268
            refine o_batch 0 [(b269, q270 + x259.toNat * 1, [.int .i64 (idx a2 x259)])] [.p, .p, .p, .x, .l 0 0, .p, .p] [(52, .int .i64 x258), (53, .slice (some ⟨b269, q270, none⟩) a2.length c2z), (54, .int .i64 x259), (55, .pointer (some ⟨b269, q270 + x259.toNat * 1, none⟩)), (56, .int .i64 (idx a2 x259)), (57, .int .i64 (w64 (x258 - (idx a2 x259)))), (9, .int .i64 (w64 (x258 - (idx a2 x259))))] [(x259, a2.length)] ⟨(hI.lies (rdS.flook hr2z rfl g268)), trivial⟩ ⟨g268, trivial⟩ (by kernel_rfl) (by kernel_rfl) (by kernel_rfl) ?_
            refine r_out (by kernel_rfl) ?_
            refine go_inBlock ?_
            refine r_in ?_
            refine o_batch 0 [] [.p, .p, .p] [(50, .int .i64 x259), (51, .int .i64 (w64 (x259 + 1))), (10, .int .i64 (w64 (x259 + 1)))] [] trivial trivial (by kernel_rfl) (by kernel_rfl) (by kernel_rfl) ?_
            refine r_out (by kernel_rfl) ?_
            exact hin1 _ (Option.some.inj H).symm _ _ ⟨_, at_slots _ (by kernel_rfl), hI⟩
          · refine go_else' (t := decide (x259 < (a2.length : Int))) (by kernel_rfl) hc261 ?_
            refine go_exit rfl ?_
            refine go_seq ?_
            refine r_in ?_
            refine o_batch 0 [] [.p] [(58, .int .i64 x258)] [] trivial trivial (by kernel_rfl) (by kernel_rfl) (by kernel_rfl) ?_
            refine o_eff 1 _ rfl (by kernel_rfl) ?_
            refine e_parts 22 2 1 _ _ _ #[.int .i64 x258] [.int .i64 x258] rfl rfl rfl rfl (by kernel_rfl) (by kernel_rfl) (by kernel_rfl) (by kernel_rfl) hI ?_
            clear hI
            intro b272 _ hI
            replace hI := hI.asrow (k := (tInt .i64)) (xs := ([x258] : List Int)) (cs := [.int .i64 x258]) (R := []) (L' := []) 1 0 [] [] (by decide) rfl (mks_cons (mk_flat (k := (tInt .i64)) x258 [.int .i64 x258] rfl) mks_nil) rfl rfl (by kernel_rfl)
            refine o_batch 2 [] [.p, .p] [(6, .slice (some ⟨b272, 0, none⟩) 1 1), (7, .bool true)] [] trivial trivial (by kernel_rfl) (by kernel_rfl) (by kernel_rfl) ?_
            refine r_out (by kernel_rfl) ?_
            refine go_is 6 (.slice (some ⟨b272, 0, none⟩) 1 1) (.slice (some ⟨b272, 0, none⟩) (([x258] : List Int).length) 1) (by kernel_rfl) (by first | rfl | simp only [List.length_set, List.length_replicate, List.length_nil]) ?_
            replace hI := hI.renum 0 rfl
            replace H := out_some H
            obtain ⟨_, H, he1⟩ := H
            have he := (hout1 _ he1).symm
            subst he
            replace H := Option.some.inj H
            subst H
            exact go_return (.tuple #[.slice (some ⟨b272, 0, none⟩) (([x258] : List Int).length) 1, .bool true]) Try.func25 (by kernel_rfl) ⟨(some ⟨b272, 0, none⟩), 1, rfl, hI⟩
        · refine go_else' (t := (a0 == 4)) (by kernel_rfl) hc185 ?_
          refine go_seq ?_
          refine r_in ?_
          refine o_batch 0 [] [.p, .p] [(61, .bool (a0 == 2)), (60, .bool (a0 == 2))] [] trivial trivial (by kernel_rfl) (by kernel_rfl) (by kernel_rfl) ?_
          refine r_out (by kernel_rfl) ?_
          replace H := cond_some H
          rcases H with ⟨hc273, H⟩ | ⟨hc273, H⟩
          · refine go_then' (t := (a0 == 2)) (by kernel_rfl) hc273 ?_
            refine go_seq ?_
            refine go_seq ?_
            refine r_in ?_
            refine o_batch 0 [] [.p, .p, .p, .p] [(62, .int .i64 (a2.length : Int)), (63, .slice A1z a1.length c1z), (64, .int .i64 (a1.length : Int)), (65, .bool (decide ((a2.length : Int) > (a1.length : Int))))] [] trivial trivial (by kernel_rfl) (by kernel_rfl) (by kernel_rfl) ?_
            refine r_out (by kernel_rfl) ?_
            replace H := cond_some H
            rcases H with ⟨hc275, H⟩ | ⟨hc275, H⟩
            · refine go_then' (t := decide ((a2.length : Int) > (a1.length : Int))) (by kernel_rfl) hc275 ?_
              refine go_seq ?_
              refine r_in ?_
              refine o_batch 0 [] [.p, .p] [(6, .slice none 0 0), (7, .bool false)] [] trivial trivial (by kernel_rfl) (by kernel_rfl) (by kernel_rfl) ?_
              refine r_out (by kernel_rfl) ?_
              replace H := Option.some.inj H
              subst H
              exact go_return (.tuple #[.slice none 0 0, .bool false]) Try.func25 (by kernel_rfl) ⟨none, 0, rfl, (hI.nilrow (tInt .i64) 2)⟩
            · refine go_else' (t := decide ((a2.length : Int) > (a1.length : Int))) (by kernel_rfl) hc275 ?_
              refine go_skip ?_
              refine go_seq ?_
              refine go_seq ?_
              refine r_in ?_
              refine o_batch 0 [] [.p] [(11, .int .i64 0)] [] trivial trivial (by kernel_rfl) (by kernel_rfl) (by kernel_rfl) ?_
              refine r_out (by kernel_rfl) ?_
              refine go_block ?_
              refine go_iter (assizeref08zBefore.s3 a1 a2) (fun x357 f w => ∃ (j : Nat → Value), f = updL j [(1, .slice A1z a1.length c1z), (2, .slice A2z a2.length c2z), (8, .int .i64 (a2.length : Int)), (11, .int .i64 x357)] ∧ Inv M w []) H ⟨_, at_slots _ (by kernel_rfl), hI⟩ ?_
              clear H hI
              rintro x357 _ _ o1 H ⟨_, rfl, hI⟩ hin1 hout1
              refine go_seq ?_
              refine go_seq ?_
              refine r_in ?_
              refine o_batch 0 [] [.p, .p, .p] [(66, .int .i64 x357), (67, .int .i64 (a2.length : Int)), (68, .bool (decide (x357 < (a2.length : Int))))] [] trivial trivial (by kernel_rfl) (by kernel_rfl) (by kernel_rfl) ?_
              refine r_out (by kernel_rfl) ?_
              replace H := cond_some H
              rcases H with ⟨hc359, H⟩ | ⟨hc359, H⟩
              · refine go_then' (t := decide (x357 < (a2.length : Int))) (by kernel_rfl) hc359 ?_
                refine go_skip ?_
                refine go_seq ?_
                refine go_block ?_
                refine go_seq ?_
                replace H := must_some H
                obtain ⟨g380, H⟩ := H
                obtain ⟨b381, q382, rfl, _⟩ := rdS.fopen hr1z rfl g380
                replace H := must_some H
                obtain ⟨g383, H⟩ := H
                obtain ⟨b384, q385, rfl, _⟩ := rdS.fopen hr2z rfl g383
                refine d_still [(b381, q382 + (w64 ((w64 ((a1.length : Int) - (a2.length : Int))) + x357)).toNat * 1, [.int .i64 (idx a1 (w64 ((w64 ((a1.length : Int) - (a2.length : Int))) + x357)))]), (b384, q385 + x357.toNat * 1, [.int .i64 (idx a2 x357)])] [.p, .p, .p, .p, .p, .p, .p, .x, .l 0 0, .p, .p, .x, .l 1 0, .p] [(71, .slice (some ⟨b381, q382, none⟩) a1.length c1z), (72, .slice (some ⟨b381, q382, none⟩) a1.length c1z), (73, .int .i64 (a1.length : Int)), (74, .int .i64 (a2.length : Int)), (75, .int .i64 (w64 ((a1.length : Int) - (a2.length : Int)))), (76, .int .i64 x357), (77, .int .i64 (w64 ((w64 ((a1.length : Int) - (a2.length : Int))) + x357))), (78, .pointer (some ⟨b381, q382 + (w64 ((w64 ((a1.length : Int) - (a2.length : Int))) + x357)).toNat * 1, none⟩)), (79, .int .i64 (idx a1 (w64 ((w64 ((a1.length : Int) - (a2.length : Int))) + x357)))), (80, .slice (some ⟨b384, q385, none⟩) a2.length c2z), (81, .int .i64 x357), (82, .pointer (some ⟨b384, q385 + x357.toNat * 1, none⟩)), (83, .int .i64 (idx a2 x357)), (84, .bool (idx a1 (w64 ((w64 ((a1.length : Int) - (a2.length : Int))) + x357)) != idx a2 x357))] [(w64 ((w64 ((a1.length : Int) - (a2.length : Int))) + x357), a1.length), (x357, a2.length)] (by kernel_rfl) (by kernel_rfl) rfl ⟨(hI.lies (rdS.flook hr1z rfl g380)), (hI.lies (rdS.flook hr2z rfl g383)), trivial⟩ ⟨g380, g383, trivial⟩ (by kernel_rfl) (by kernel_rfl) (by kernel_rfl) hI ?_
                clear hI
                intro _ hI
                replace H := cond_some H
                rcases H with ⟨hc386, H⟩ | ⟨hc386, H⟩
                · refine go_then' (t := (idx a1 (w64 ((w64 ((a1.length : Int) - (a2.length : Int))) + x357)) != idx a2 x357)) (by kernel_rfl) hc386 ?_
                  refine go_seq ?_
                  refine r_in ?_
                  refine o_batch 0 [] [.p, .p] [(6, .slice none 0 0), (7, .bool false)] [] trivial trivial (by kernel_rfl) (by kernel_rfl) (by kernel_rfl) ?_
                  refine r_out (by kernel_rfl) ?_
                  replace H := out_some H
                  obtain ⟨_, H, he1⟩ := H
                  have he := (hout1 _ he1).symm
                  subst he
                  replace H := Option.some.inj H
                  subst H
                  exact go_return (.tuple #[.slice none 0 0, .bool false]) Try.func25 (by kernel_rfl) ⟨none, 0, rfl, (hI.nilrow (tInt .i64) 2)⟩
                · refine go_else' (t := (idx a1 (w64 ((w64 ((a1.length : Int) - (a2.length : Int))) + x357)) != idx a2 x357)) (by kernel_rfl) hc386 ?_
                  refine go_skip ?_
                  refine go_inBlock ?_
                  refine r_in ?_
                  refine o_batch 0 [] [.p, .p, .p] [(69, .int .i64 x357), (70, .int .i64 (w64 (x357 + 1))), (11, .int .i64 (w64 (x357 + 1)))] [] trivial trivial (by kernel_rfl) (by kernel_rfl) (by kernel_rfl) ?_
                  refine r_out (by kernel_rfl) ?_
                  exact hin1 _ (Option.some.inj H).symm _ _ ⟨_, at_slots _ (by kernel_rfl), hI⟩
              · refine go_else' (t := decide (x357 < (a2.length : Int))) (by kernel_rfl) hc359 ?_
                refine go_exit rfl ?_
                refine go_seq ?_
                refine r_in ?_
                refine o_eff 0 _ rfl (by kernel_rfl) ?_
                refine e_empty (α := Int) (tInt .i64) 22 2 _ rfl rfl rfl hI ?_
                clear hI
                intro b396 _ hI
                refine o_batch 1 [] [.p, .p, .p, .p, .p] [(86, .slice A1z a1.length c1z), (87, .slice A1z a1.length c1z), (88, .int .i64 (a1.length : Int)), (89, .int .i64 (a2.length : Int)), (90, .int .i64 (w64 ((a1.length : Int) - (a2.length : Int))))] [] trivial trivial (by kernel_rfl) (by kernel_rfl) (by kernel_rfl) ?_
                replace H := must_some H
                obtain ⟨g397, H⟩ := H
                refine o_eff 6 _ rfl (by kernel_rfl) ?_
                refine e_slice_ro (tInt .i64) _ 22 2 _ _ _ _ A1z c1z a1 .i64 .i64 (0 : Int) (w64 ((a1.length : Int) - (a2.length : Int))) rfl (by kernel_rfl) (by kernel_rfl) (by kernel_rfl) rfl rfl rfl hr1z hl1z g397 ?_
                intro A398 c399 hr400 hl401
                replace H := must_some H
                obtain ⟨g402, H⟩ := H
                refine o_eff 7 _ rfl (by kernel_rfl) ?_
                refine e_append_rd (kt := (tInt .i64)) 22 0 2 _ _ _ _ (some ⟨b396, 0, none⟩) A398 0 0 ([] : List Int) (subl a1 (0 : Int) (w64 ((a1.length : Int) - (a2.length : Int)))) c399 0 [] [] rfl (by kernel_rfl) (by kernel_rfl) rfl rfl rfl rfl rfl (by kernel_rfl) hI (by decide) rfl (hI.rd hr400) g402 ?_
                clear hI
                intro A403 c404 _ hI
                refine o_batch 8 [] [.p, .p] [(6, .slice A403 ((([] : List Int) ++ (subl a1 (0 : Int) (w64 ((a1.length : Int) - (a2.length : Int))))).length) c404), (7, .bool true)] [] trivial trivial (by kernel_rfl) (by kernel_rfl) (by kernel_rfl) ?_
                refine r_out (by kernel_rfl) ?_
                replace H := out_some H
                obtain ⟨_, H, he1⟩ := H
                have he := (hout1 _ he1).symm
                subst he
                replace H := Option.some.inj H
                subst H
                exact go_return (.tuple #[.slice A403 ((([] : List Int) ++ (subl a1 (0 : Int) (w64 ((a1.length : Int) - (a2.length : Int))))).length) c404, .bool true]) Try.func25 (by kernel_rfl) ⟨A403, c404, rfl, hI⟩
          · refine go_else' (t := (a0 == 2)) (by kernel_rfl) hc273 ?_
            refine go_skip ?_
            refine go_inBlock ?_
            refine go_seq ?_
            refine r_in ?_
            refine o_batch 0 [] [.p] [(12, .slice none 0 0)] [] trivial trivial (by kernel_rfl) (by kernel_rfl) (by kernel_rfl) ?_
            refine r_out (by kernel_rfl) ?_
            refine go_seq ?_
            refine go_seq ?_
            refine r_in ?_
            refine o_batch 0 [] [.p] [(13, .int .i64 0)] [] trivial trivial (by kernel_rfl) (by kernel_rfl) (by kernel_rfl) ?_
            refine r_out (by kernel_rfl) ?_
            refine go_block ?_
            refine go_iter (assizeref08zBefore.s4 a1 a2) (fun x550 f w => ∃ (j : Nat → Value), f = updL j [(1, .slice A1z a1.length c1z), (2, .slice A2z a2.length c2z), (8, .int .i64 (a2.length : Int)), (12, .slice none 0 0), (13, .int .i64 x550)] ∧ Inv M w []) H ⟨_, at_slots _ (by kernel_rfl), hI⟩ ?_
            clear H hI
            rintro x550 _ _ o1 H ⟨_, rfl, hI⟩ hin1 hout1
            refine go_seq ?_
            refine go_seq ?_
            refine r_in ?_
            refine o_batch 0 [] [.p, .p, .p] [(93, .int .i64 x550), (94, .int .i64 (a2.length : Int)), (95, .bool (decide (x550 < (a2.length : Int))))] [] trivial trivial (by kernel_rfl) (by kernel_rfl) (by kernel_rfl) ?_
            refine r_out (by kernel_rfl) ?_
            replace H := cond_some H
            rcases H with ⟨hc552, H⟩ | ⟨hc552, H⟩
            · refine go_then' (t := decide (x550 < (a2.length : Int))) (by kernel_rfl) hc552 ?_
              refine go_skip ?_
              refine go_seq ?_
              refine go_block ?_
              refine go_seq_join (o := o1) (fun b596 f w => ∃ (j : Nat → Value), f = updL j [(1, .slice A1z a1.length c1z), (2, .slice A2z a2.length c2z), (8, .int .i64 (a2.length : Int)), (12, .slice none 0 0), (13, .int .i64 x550), (114, .bool b596)] ∧ Inv M w []) (fun b596 => assizeref08zBefore.j5 x550 b596) ?_ (fun hJ597 => ?_)
              · clear H hI
                rintro b596 _ _ ⟨_, rfl, hI⟩ H
                replace H := cond_some H
                rcases H with ⟨hc598, H⟩ | ⟨hc598, H⟩
                · refine go_then' (t := b596) (by kernel_rfl) hc598 ?_
                  refine go_seq ?_
                  refine r_in ?_
                  refine o_batch 0 [] [.p, .p] [(6, .slice none 0 0), (7, .bool false)] [] trivial trivial (by kernel_rfl) (by kernel_rfl) (by kernel_rfl) ?_
                  refine r_out (by kernel_rfl) ?_
                  replace H := out_some H
                  obtain ⟨_, H, he1⟩ := H
                  have he := (hout1 _ he1).symm
                  subst he
                  replace H := Option.some.inj H
                  subst H
                  exact go_return (.tuple #[.slice none 0 0, .bool false]) Try.func25 (by kernel_rfl) ⟨none, 0, rfl, (hI.nilrow (tInt .i64) 2)⟩
                · refine go_else' (t := b596) (by kernel_rfl) hc598 ?_
                  refine go_skip ?_
                  refine go_inBlock ?_
                  refine r_in ?_
                  refine o_batch 0 [] [.p, .p, .p] [(96, .int .i64 x550), (97, .int .i64 (w64 (x550 + 1))), (13, .int .i64 (w64 (x550 + 1)))] [] trivial trivial (by kernel_rfl) (by kernel_rfl) (by kernel_rfl) ?_
                  refine r_out (by kernel_rfl) ?_
                  exact hin1 _ (Option.some.inj H).symm _ _ ⟨_, at_slots _ (by kernel_rfl), hI⟩
              · replace H := must_some H
                obtain ⟨g599, H⟩ := H
                obtain ⟨b600, q601, rfl, _⟩ := rdS.fopen hr2z rfl g599
                replace H := bind_some H
                obtain ⟨y602, hy603, H⟩ := H
                replace H := cond_some H
                rcases H with ⟨hc604, H⟩ | ⟨hc604, H⟩
                · refine go_held (fun w => Inv M w []) (by kernel_rfl) ?_
                  replace hI := hI.drew'
                  refine held_batch (n := 12) [(b600, q601 + x550.toNat * 1, [.int .i64 (idx a2 x550)])] [(0, .p), (1, .p), (2, .p), (3, .x), (4, .l 0 0)] [(98, .slice A1z a1.length c1z), (99, .slice (some ⟨b600, q601, none⟩) a2.length c2z), (100, .int .i64 x550), (101, .pointer (some ⟨b600, q601 + x550.toNat * 1, none⟩)), (102, .int .i64 (idx a2 x550))] [(x550, a2.length)] [true, true, true, true, true, false, false, false, false, false, false, false, false, false, false, false, false] (by kernel_rfl) (fun w hS => ⟨(hS.lies (rdS.flook hr2z rfl g599)), trivial⟩) hI ⟨g599, trivial⟩ (by kernel_rfl) (by kernel_rfl) (by kernel_rfl) ?_
                  refine held_one (n := 11) 5 _ rfl (by kernel_rfl) (by kernel_rfl) (e_callf _ _ _ 40 #[] #[] #[.slice A1z a1.length c1z, .int .i64 (idx a2 x550)] #[.slice A1z a1.length c1z, .int .i64 (idx a2 x550)] rfl (by kernel_rfl) (by kernel_rfl) (by kernel_rfl) (enter40 _) (assizeref08zin_calls A1z c1z a1 (idx a2 x550) (memOf _) _ (Inv.start _) (hI.rd hr1z) hl1z _ hy603) ?_)
                  rintro _ _ ⟨rfl, hI'⟩
                  replace hI := hI.call0 hI'
                  clear hI'
                  refine ⟨_, rfl, ?_⟩
                  refine ⟨hI, ?_⟩
                  refine held_batch (n := 0) [] [(6, .p), (7, .c true), (8, .p), (9, .p), (10, .p), (11, .p), (12, .p), (13, .p), (14, .p), (15, .p), (16, .p)] [(104, .bool (!y602)), (105, .bool true), (106, undef), (107, undef), (108, undef), (109, undef), (110, undef), (111, undef), (112, undef), (113, undef), (114, .bool true)] [((bif (!y602) == true then 0 else -1), 1)] [true, true, true, true, true, true, true, true, true, true, true, true, true, true, true, true, true] (by kernel_rfl) (fun w hS => trivial) hI ⟨(bndEq hc604), trivial⟩ (by kernel_rfl) (by kernel_rfl) (by kernel_rfl) ?_
                  refine held_done (by kernel_rfl) ?_
                  exact hJ597 true _ _ ⟨_, at_slots _ (by kernel_rfl), hI⟩ H
                · replace H := must_some H
                  obtain ⟨g605, H⟩ := H
                  replace H := bind_some H
                  obtain ⟨y610, hy611, H⟩ := H
                  refine go_held (fun w => Inv M w []) (by kernel_rfl) ?_
                  replace hI := hI.drew'
                  refine held_batch (n := 12) [(b600, q601 + x550.toNat * 1, [.int .i64 (idx a2 x550)])] [(0, .p), (1, .p), (2, .p), (3, .x), (4, .l 0 0)] [(98, .slice A1z a1.length c1z), (99, .slice (some ⟨b600, q601, none⟩) a2.length c2z), (100, .int .i64 x550), (101, .pointer (some ⟨b600, q601 + x550.toNat * 1, none⟩)), (102, .int .i64 (idx a2 x550))] [(x550, a2.length)] [true, true, true, true, true, false, false, false, false, false, false, false, false, false, false, false, false] (by kernel_rfl) (fun w hS => ⟨(hS.lies (rdS.flook hr2z rfl g599)), trivial⟩) hI ⟨g599, trivial⟩ (by kernel_rfl) (by kernel_rfl) (by kernel_rfl) ?_
                  refine held_one (n := 11) 5 _ rfl (by kernel_rfl) (by kernel_rfl) (e_callf _ _ _ 40 #[] #[] #[.slice A1z a1.length c1z, .int .i64 (idx a2 x550)] #[.slice A1z a1.length c1z, .int .i64 (idx a2 x550)] rfl (by kernel_rfl) (by kernel_rfl) (by kernel_rfl) (enter40 _) (assizeref08zin_calls A1z c1z a1 (idx a2 x550) (memOf _) _ (Inv.start _) (hI.rd hr1z) hl1z _ hy603) ?_)
                  rintro _ _ ⟨rfl, hI'⟩
                  replace hI := hI.call0 hI'
                  clear hI'
                  refine ⟨_, rfl, ?_⟩
                  refine ⟨hI, ?_⟩
                  refine held_batch (n := 3) [(b600, q601 + x550.toNat * 1, [.int .i64 (idx a2 x550)])] [(6, .p), (7, .c false), (8, .p), (9, .p), (11, .p), (12, .p), (13, .x), (14, .l 0 0)] [(104, .bool (!y602)), (105, .bool false), (106, .slice (some ⟨b600, q601, none⟩) a2.length c2z), (107, .int .i64 x550), (109, .slice (some ⟨b600, q601, none⟩) a2.length c2z), (110, .int .i64 x550), (111, .pointer (some ⟨b600, q601 + x550.toNat * 1, none⟩)), (112, .int .i64 (idx a2 x550))] [((bif (!y602) == false then 0 else -1), 1), (x550, a2.length)] [true, true, true, true, true, true, true, true, true, true, false, true, true, true, true, false, false] (by kernel_rfl) (fun w hS => ⟨(hS.lies (rdS.flook hr2z rfl g599)), trivial⟩) hI ⟨(bndEq hc604), g599, trivial⟩ (by kernel_rfl) (by kernel_rfl) (by kernel_rfl) ?_
                  refine held_one (n := 2) 10 _ rfl (by kernel_rfl) (by kernel_rfl) (e_slice_ro (tInt .i64) _ 22 2 _ _ _ _ (some ⟨b600, q601, none⟩) c2z a2 .i64 .i64 (0 : Int) x550 rfl (by kernel_rfl) (by kernel_rfl) (by kernel_rfl) rfl rfl rfl hr2z hl2z g605 ?_)
                  intro A606 c607 hr608 hl609
                  refine ⟨hI, ?_⟩
                  refine held_one (n := 1) 15 _ rfl (by kernel_rfl) (by kernel_rfl) (e_callf _ _ _ 40 #[] #[] #[.slice A606 ((subl a2 (0 : Int) x550).length) c607, .int .i64 (idx a2 x550)] #[.slice A606 ((subl a2 (0 : Int) x550).length) c607, .int .i64 (idx a2 x550)] rfl (by kernel_rfl) (by kernel_rfl) (by kernel_rfl) (enter40 _) (assizeref08zin_calls A606 c607 (subl a2 (0 : Int) x550) (idx a2 x550) (memOf _) _ (Inv.start _) (hI.rd hr608) hl609 _ hy611) ?_)
                  rintro _ _ ⟨rfl, hI'⟩
                  replace hI := hI.call0 hI'
                  clear hI'
                  refine ⟨_, rfl, ?_⟩
                  refine ⟨hI, ?_⟩
                  refine held_batch (n := 0) [] [(16, .p)] [(114, .bool y610)] [] [true, true, true, true, true, true, true, true, true, true, true, true, true, true, true, true, true] (by kernel_rfl) (fun w hS => trivial) hI trivial (by kernel_rfl) (by kernel_rfl) (by kernel_rfl) ?_
                  refine held_done (by kernel_rfl) ?_
                  exact hJ597 y610 _ _ ⟨_, at_slots _ (by kernel_rfl), hI⟩ H
            · refine go_else' (t := decide (x550 < (a2.length : Int))) (by kernel_rfl) hc552 ?_
              refine go_exit rfl ?_
              refine go_seq ?_
              refine go_seq ?_
              refine r_in ?_
              refine o_batch 0 [] [.p] [(14, .int .i64 0)] [] trivial trivial (by kernel_rfl) (by kernel_rfl) (by kernel_rfl) ?_
              refine r_out (by kernel_rfl) ?_
              refine go_block ?_
              refine go_iter (assizeref08zBefore.s6 a1 a2) (fun (l792, x795) f w => ∃ (j : Nat → Value) (A793 : Option Addr) (c794 : Nat), f = updL j [(1, .slice A1z a1.length c1z), (2, .slice A2z a2.length c2z), (12, .slice A793 l792.length c794), (14, .int .i64 x795)] ∧ Inv M w [.row (tInt .i64) 2 A793 l792.length c794 l792]) H ⟨_, none, 0, at_slots _ (by kernel_rfl), (hI.nilrow (tInt .i64) 2)⟩ ?_
              clear H hI
              rintro ⟨l792, x795⟩ _ _ o2 H ⟨_, A793, c794, rfl, hI⟩ hin2 hout2
              refine go_seq ?_
              refine go_seq ?_
              refine r_in ?_
              refine o_batch 0 [] [.p, .p, .p, .p] [(115, .int .i64 x795), (116, .slice A1z a1.length c1z), (117, .int .i64 (a1.length : Int)), (118, .bool (decide (x795 < (a1.length : Int))))] [] trivial trivial (by kernel_rfl) (by kernel_rfl) (by kernel_rfl) ?_
              refine r_out (by kernel_rfl) ?_
              replace H := cond_some H
              rcases H with ⟨hc797, H⟩ | ⟨hc797, H⟩
              · refine go_then' (t := decide (x795 < (a1.length : Int))) (by kernel_rfl) hc797 ?_
                refine go_skip ?_
                refine go_seq ?_
                refine go_block_join (o := o2) (fun l821 f w => ∃ (j : Nat → Value) (A822 : Option Addr) (c823 : Nat), f = updL j [(1, .slice A1z a1.length c1z), (2, .slice A2z a2.length c2z), (12, .slice A822 l821.length c823), (14, .int .i64 x795)] ∧ Inv M w [.row (tInt .i64) 2 A822 l821.length c823 l821]) (fun l821 => assizeref08zBefore.j7 x795 l821) ?_ (fun hJ824 => ?_)
                · clear H hI
                  rintro l821 _ _ ⟨_, A822, c823, rfl, hI⟩ H
                  refine r_in ?_
                  refine o_batch 0 [] [.p, .p, .p] [(119, .int .i64 x795), (120, .int .i64 (w64 (x795 + 1))), (14, .int .i64 (w64 (x795 + 1)))] [] trivial trivial (by kernel_rfl) (by kernel_rfl) (by kernel_rfl) ?_
                  refine r_out (by kernel_rfl) ?_
                  exact hin2 _ (Option.some.inj H).symm _ _ ⟨_, A822, c823, at_slots _ (by kernel_rfl), hI⟩
                · refine go_seq ?_
                  refine r_in ?_
                  replace H := must_some H
                  obtain ⟨g830, H⟩ := H
                  obtain ⟨b831, q832, rfl, _⟩ := rdS.fopen hr1z rfl g830
                  refine o_batch 0 [(b831, q832 + x795.toNat * 1, [.int .i64 (idx a1 x795)])] [.p, .p, .p, .x, .l 0 0] [(121, .slice A2z a2.length c2z), (122, .slice (some ⟨b831, q832, none⟩) a1.length c1z), (123, .int .i64 x795), (124, .pointer (some ⟨b831, q832 + x795.toNat * 1, none⟩)), (125, .int .i64 (idx a1 x795))] [(x795, a1.length)] ⟨(hI.lies (rdS.flook hr1z rfl g830)), trivial⟩ ⟨g830, trivial⟩ (by kernel_rfl) (by kernel_rfl) (by kernel_rfl) ?_
                  replace H := bind_some H
                  obtain ⟨y833, hy834, H⟩ := H
                  refine o_eff 5 _ rfl (by kernel_rfl) ?_
                  refine e_callf _ _ _ 40 #[] #[] #[.slice A2z a2.length c2z, .int .i64 (idx a1 x795)] #[.slice A2z a2.length c2z, .int .i64 (idx a1 x795)] rfl (by kernel_rfl) (by kernel_rfl) (by kernel_rfl) (enter40 _) (assizeref08zin_calls A2z c2z a2 (idx a1 x795) (memOf _) _ (Inv.start _) (hI.rd hr2z) hl2z _ hy834) ?_
                  rintro _ _ ⟨rfl, hI'⟩
                  replace hI := hI.call0 hI'
                  clear hI'
                  refine ⟨_, rfl, ?_⟩
                  refine o_batch 6 [] [.p] [(127, .bool (!y833))] [] trivial trivial (by kernel_rfl) (by kernel_rfl) (by kernel_rfl) ?_
                  refine r_out (by kernel_rfl) ?_
                  replace H := cond_some H
                  rcases H with ⟨hc835, H⟩ | ⟨hc835, H⟩
                  · refine go_then' (t := !y833) (by kernel_rfl) hc835 ?_
                    refine r_in ?_
                    refine o_batch 0 [(b831, q832 + x795.toNat * 1, [.int .i64 (idx a1 x795)])] [.p, .p, .p, .x, .l 0 0] [(128, .slice A793 l792.length c794), (129, .slice (some ⟨b831, q832, none⟩) a1.length c1z), (130, .int .i64 x795), (131, .pointer (some ⟨b831, q832 + x795.toNat * 1, none⟩)), (132, .int .i64 (idx a1 x795))] [(x795, a1.length)] ⟨(hI.lies (rdS.flook hr1z rfl g830)), trivial⟩ ⟨g830, trivial⟩ (by kernel_rfl) (by kernel_rfl) (by kernel_rfl) ?_
                    refine o_eff 5 _ rfl (by kernel_rfl) ?_
                    refine e_parts 22 2 1 _ _ _ #[.int .i64 (idx a1 x795)] [.int .i64 (idx a1 x795)] rfl rfl rfl rfl (by kernel_rfl) (by kernel_rfl) (by kernel_rfl) (by kernel_rfl) hI ?_
                    clear hI
                    intro b836 _ hI
                    replace H := must_some H
                    obtain ⟨g837, H⟩ := H
                    refine o_eff 6 _ rfl (by kernel_rfl) ?_
                    refine e_append (tInt .i64) 22 0 2 _ _ _ _ A793 l792.length c794 l792 ([idx a1 x795] : List Int) b836 0 1 1 [.int .i64 (idx a1 x795)] 0 [] [1] [] [.blk b836 2 [.int .i64 (idx a1 x795)]] rfl (by kernel_rfl) (by kernel_rfl) rfl rfl rfl rfl rfl (by kernel_rfl) hI (by decide) rfl rfl rfl (hI.grp 1 rfl) g837 (mks_cons (mk_flat (k := (tInt .i64)) (idx a1 x795) [.int .i64 (idx a1 x795)] rfl) mks_nil) ?_
                    clear hI
                    intro A838 c839 _ hI
                    replace hI := hI.pick (L' := [.row (tInt .i64) 2 A838 ((l792 ++ ([idx a1 x795] : List Int)).length) c839 (l792 ++ ([idx a1 x795] : List Int))]) [0] (by decide) rfl
                    refine o_batch 7 [] [.p] [(12, .slice A838 ((l792 ++ ([idx a1 x795] : List Int)).length) c839)] [] trivial trivial (by kernel_rfl) (by kernel_rfl) (by kernel_rfl) ?_
                    refine r_out (by kernel_rfl) ?_
                    refine go_inBlock ?_
                    exact hJ824 (l792 ++ ([idx a1 x795] : List Int)) _ _ ⟨_, A838, c839, at_slots _ (by kernel_rfl), hI⟩ H
                  · refine go_else' (t := !y833) (by kernel_rfl) hc835 ?_
                    refine go_skip ?_
                    refine go_inBlock ?_
                    exact hJ824 l792 _ _ ⟨_, A793, c794, at_slots _ (by kernel_rfl), hI⟩ H
              · refine go_else' (t := decide (x795 < (a1.length : Int))) (by kernel_rfl) hc797 ?_
                refine go_exit rfl ?_
                refine go_seq ?_
                refine r_in ?_
                refine o_batch 0 [] [.p, .p, .p] [(135, .slice A793 l792.length c794), (6, .slice A793 l792.length c794), (7, .bool true)] [] trivial trivial (by kernel_rfl) (by kernel_rfl) (by kernel_rfl) ?_
                refine r_out (by kernel_rfl) ?_
                replace H := out_some H
                obtain ⟨_, H, he2⟩ := H
                have he := (hout2 _ he2).symm
                subst he
                replace H := out_some H
                obtain ⟨_, H, he1⟩ := H
                have he := (hout1 _ he1).symm
                subst he
                replace H := Option.some.inj H
                subst H
                exact go_return (.tuple #[.slice A793 l792.length c794, .bool true]) Try.func25 (by kernel_rfl) ⟨A793, c794, rfl, hI⟩
  · refine r_in ?_
    refine o_batch 0 [] [.p, .p] [(17, .int .i64 a0), (18, .slice A1z a1.length c1z)] [] trivial trivial (by kernel_rfl) (by kernel_rfl) (by kernel_rfl) ?_
    replace H := bind_some H
    obtain ⟨y840, hy841, H⟩ := H
    refine o_eff 2 _ rfl (by kernel_rfl) ?_
    refine e_callf _ _ _ 22 #[] #[] #[.int .i64 a0, .slice A1z a1.length c1z] #[.int .i64 a0, .slice A1z a1.length c1z] rfl (by kernel_rfl) (by kernel_rfl) (by kernel_rfl) (enter22 _) (assizeref08zCheck_calls a0 A1z c1z a1 (memOf _) _ (Inv.start _) (hI.rd hr1z) hl1z _ hy841) ?_
    rintro _ _ ⟨rfl, hI'⟩
    replace hI := hI.call0 hI'
    clear hI'
    refine ⟨_, rfl, ?_⟩
    replace H := cond_some H
    rcases H with ⟨hc842, H⟩ | ⟨hc842, H⟩
    · refine o_batch 3 [] [.p, .c true, .p, .p, .p] [(20, .bool (y840 != 0)), (21, .bool true), (22, undef), (23, undef), (24, .bool true)] [((bif (y840 != 0) == true then 0 else -1), 1)] trivial ⟨(bndEq hc842), trivial⟩ (by kernel_rfl) (by kernel_rfl) (by kernel_rfl) ?_
      refine r_out (by kernel_rfl) ?_
      exact hJ10 true _ _ ⟨_, at_slots _ (by kernel_rfl), hI⟩ H
    · refine o_batch 3 [] [.p, .c false, .p, .p, .p] [(20, .bool (y840 != 0)), (21, .bool false), (22, .int .i64 (a2.length : Int)), (23, .bool ((a2.length : Int) == 0)), (24, .bool ((a2.length : Int) == 0))] [((bif (y840 != 0) == false then 0 else -1), 1)] trivial ⟨(bndEq hc842), trivial⟩ (by kernel_rfl) (by kernel_rfl) (by kernel_rfl) ?_
      refine r_out (by kernel_rfl) ?_
      exact hJ10 ((a2.length : Int) == 0) _ _ ⟨_, at_slots _ (by kernel_rfl), hI⟩ H

/-! ### assizelaw08.StateFolds -/
theorem enter5 (a : Array Value) : Sem.pureRun Try.prog (callFunc 5 a) = some (.enter 5 a) := by kernel_rfl
theorem assizelaw08zStateFolds_calls (a0 : Int) (A1z : Option Addr) (c1z : Nat) (a1 : List Int) (A2z : Option Addr) (c2z : Nat) (a2 : List Int) (M : Mem) (w : World) (hI : Inv M w []) (hr1z : rdS (tInt .i64) M.blk A1z a1) (hl1z : a1.length ≤ c1z) (hr2z : rdS (tInt .i64) M.blk A2z a2) (hl2z : a2.length ≤ c2z) (r : Bool) (H : assizelaw08zStateFolds a0 a1 a2 = some r) :
    Calls Try.prog 5 #[.int .i64 a0, .slice A1z a1.length c1z, .slice A2z a2.length c2z] w fun e w' => e = .returned (.bool r) ∧ Inv M w' [] := by
  refine calls_go (updL (fun _ => undef) [(0, .int .i64 a0), (1, .slice A1z a1.length c1z), (2, .slice A2z a2.length c2z)]) Try.func5 rfl (by kernel_rfl) ?_
  intro cs
  unfold assizelaw08zStateFolds at H
  refine go_seq ?_
  refine r_in ?_
  refine o_batch 0 [] [.p] [(6, .bool false)] [] trivial trivial (by kernel_rfl) (by kernel_rfl) (by kernel_rfl) ?_
  refine r_out (by kernel_rfl) ?_
  refine go_seq ?_
  refine go_seq ?_
  refine r_in ?_
  replace H := bind_some H
  obtain ⟨y6, hy7, H⟩ := H
  refine o_eff 0 _ rfl (by kernel_rfl) ?_
  refine e_callf _ _ _ 13 #[] #[] #[] #[] rfl (by kernel_rfl) (by kernel_rfl) (by kernel_rfl) (enter13 _) (assizelaw08zalive_calls (memOf _) _ (Inv.start _) _ hy7) ?_
  rintro _ _ ⟨rfl, hI'⟩
  replace hI := hI.call0 hI'
  clear hI'
  refine ⟨_, rfl, ?_⟩
  refine o_batch 1 [] [.p] [(16, .bool (!y6))] [] trivial trivial (by kernel_rfl) (by kernel_rfl) (by kernel_rfl) ?_
  refine r_out (by kernel_rfl) ?_
  replace H := cond_some H
  rcases H with ⟨hc8, H⟩ | ⟨hc8, H⟩
  · refine go_then' (t := !y6) (by kernel_rfl) hc8 ?_
    refine go_seq ?_
    refine r_in ?_
    refine o_batch 0 [] [.p] [(6, .bool false)] [] trivial trivial (by kernel_rfl) (by kernel_rfl) (by kernel_rfl) ?_
    refine r_out (by kernel_rfl) ?_
    replace H := Option.some.inj H
    subst H
    exact go_return (.bool false) Try.func5 (by kernel_rfl) ⟨rfl, hI⟩
  · refine go_else' (t := !y6) (by kernel_rfl) hc8 ?_
    refine go_skip ?_
    refine go_seq ?_
    refine r_in ?_
    refine o_batch 0 [] [.p, .p] [(18, .int .i64 a0), (19, .slice A2z a2.length c2z)] [] trivial trivial (by kernel_rfl) (by kernel_rfl) (by kernel_rfl) ?_
    replace H := bind_some H
    obtain ⟨y17, hy18, H⟩ := H
    refine o_eff 2 _ rfl (by kernel_rfl) ?_
    refine e_callf _ _ _ 14 #[] #[] #[.slice A2z a2.length c2z] #[.slice A2z a2.length c2z] rfl (by kernel_rfl) (by kernel_rfl) (by kernel_rfl) (enter14 _) (assizelaw08zcopied_calls A2z c2z a2 (memOf _) _ (Inv.start _) (hI.rd hr2z) hl2z _ hy18) ?_
    rintro _ _ ⟨A19, c20, rfl, hI'⟩
    replace hI := hI.call0 hI'
    clear hI'
    refine ⟨_, rfl, ?_⟩
    replace H := bind_some H
    obtain ⟨y21, hy22, H⟩ := H
    refine o_eff 3 _ rfl (by kernel_rfl) ?_
    refine e_callf _ _ _ 23 #[] #[] #[.int .i64 a0, .slice A19 y17.length c20] #[.int .i64 a0, .slice A19 y17.length c20] rfl (by kernel_rfl) (by kernel_rfl) (by kernel_rfl) (enter23 _) (state_Fold_calls a0 A19 c20 y17 (memOf _) _ (Inv.start _) (hI.row 0 rfl) (hI.rowle 0 rfl) _ hy22) ?_
    rintro _ _ ⟨A23, c24, rfl, hI'⟩
    replace hI := hI.call0 hI'
    clear hI'
    refine ⟨_, rfl, ?_⟩
    refine o_batch 4 [] [.p, .p, .p, .p, .p] [(17, .tuple #[.slice A23 y21.1.length c24, .int .i64 y21.2]), (22, .slice A23 y21.1.length c24), (23, .int .i64 y21.2), (7, .slice A23 y21.1.length c24), (8, .int .i64 y21.2)] [] trivial trivial (by kernel_rfl) (by kernel_rfl) (by kernel_rfl) ?_
    refine r_out (by kernel_rfl) ?_
    refine go_seq ?_
    refine r_in ?_
    refine o_batch 0 [] [.p, .p] [(25, .int .i64 a0), (26, .slice A2z a2.length c2z)] [] trivial trivial (by kernel_rfl) (by kernel_rfl) (by kernel_rfl) ?_
    replace H := bind_some H
    obtain ⟨y29, hy30, H⟩ := H
    refine o_eff 2 _ rfl (by kernel_rfl) ?_
    refine e_callf _ _ _ 24 #[] #[] #[.int .i64 a0, .slice A2z a2.length c2z] #[.int .i64 a0, .slice A2z a2.length c2z] rfl (by kernel_rfl) (by kernel_rfl) (by kernel_rfl) (enter24 _) (assizeref08zFold_calls a0 A2z c2z a2 (memOf _) _ (Inv.start _) (hI.rd hr2z) hl2z _ hy30) ?_
    rintro _ _ ⟨A31, c32, rfl, hI'⟩
    replace hI := hI.call0 hI'
    clear hI'
    refine ⟨_, rfl, ?_⟩
    refine o_batch 3 [] [.p, .p, .p, .p, .p] [(24, .tuple #[.slice A31 y29.1.length c32, .int .i64 y29.2]), (28, .slice A31 y29.1.length c32), (29, .int .i64 y29.2), (9, .slice A31 y29.1.length c32), (10, .int .i64 y29.2)] [] trivial trivial (by kernel_rfl) (by kernel_rfl) (by kernel_rfl) ?_
    refine r_out (by kernel_rfl) ?_
    refine go_seq ?_
    refine r_in ?_
    refine o_batch 0 [] [.p, .p] [(31, .int .i64 a0), (32, .slice A1z a1.length c1z)] [] trivial trivial (by kernel_rfl) (by kernel_rfl) (by kernel_rfl) ?_
    replace H := bind_some H
    obtain ⟨y45, hy46, H⟩ := H
    refine o_eff 2 _ rfl (by kernel_rfl) ?_
    refine e_callf _ _ _ 14 #[] #[] #[.slice A1z a1.length c1z] #[.slice A1z a1.length c1z] rfl (by kernel_rfl) (by kernel_rfl) (by kernel_rfl) (enter14 _) (assizelaw08zcopied_calls A1z c1z a1 (memOf _) _ (Inv.start _) (hI.rd hr1z) hl1z _ hy46) ?_
    rintro _ _ ⟨A47, c48, rfl, hI'⟩
    replace hI := hI.call0 hI'
    clear hI'
    refine ⟨_, rfl, ?_⟩
    refine o_batch 3 [] [.p] [(34, .slice A2z a2.length c2z)] [] trivial trivial (by kernel_rfl) (by kernel_rfl) (by kernel_rfl) ?_
    replace H := bind_some H
    obtain ⟨y49, hy50, H⟩ := H
    refine o_eff 4 _ rfl (by kernel_rfl) ?_
    refine e_callf _ _ _ 14 #[] #[] #[.slice A2z a2.length c2z] #[.slice A2z a2.length c2z] rfl (by kernel_rfl) (by kernel_rfl) (by kernel_rfl) (enter14 _) (assizelaw08zcopied_calls A2z c2z a2 (memOf _) _ (Inv.start _) (hI.rd hr2z) hl2z _ hy50) ?_
    rintro _ _ ⟨A51, c52, rfl, hI'⟩
    replace hI := hI.call0 hI'
    clear hI'
    refine ⟨_, rfl, ?_⟩
    replace H := bind_some H
    obtain ⟨y53, hy54, H⟩ := H
    refine o_eff 5 _ rfl (by kernel_rfl) ?_
    refine e_callf _ _ _ 16 #[] #[] #[.int .i64 a0, .slice A47 y45.length c48, .slice A51 y49.length c52] #[.int .i64 a0, .slice A47 y45.length c48, .slice A51 y49.length c52] rfl (by kernel_rfl) (by kernel_rfl) (by kernel_rfl) (enter16 _) (state_Before_calls a0 A47 c48 y45 A51 c52 y49 (memOf _) _ (Inv.start _) (hI.row 3 rfl) (hI.rowle 3 rfl) (hI.row 4 rfl) (hI.rowle 4 rfl) _ hy54) ?_
    rintro _ _ ⟨A55, c56, rfl, hI'⟩
    replace hI := hI.call0 hI'
    clear hI'
    refine ⟨_, rfl, ?_⟩
    refine o_batch 6 [] [.p, .p, .p, .p, .p] [(30, .tuple #[.slice A55 y53.1.length c56, .bool y53.2]), (37, .slice A55 y53.1.length c56), (38, .bool y53.2), (11, .slice A55 y53.1.length c56), (12, .bool y53.2)] [] trivial trivial (by kernel_rfl) (by kernel_rfl) (by kernel_rfl) ?_
    refine r_out (by kernel_rfl) ?_
    refine go_seq ?_
    refine r_in ?_
    refine o_batch 0 [] [.p, .p, .p] [(40, .int .i64 a0), (41, .slice A1z a1.length c1z), (42, .slice A2z a2.length c2z)] [] trivial trivial (by kernel_rfl) (by kernel_rfl) (by kernel_rfl) ?_
    replace H := bind_some H
    obtain ⟨y61, hy62, H⟩ := H
    refine o_eff 3 _ rfl (by kernel_rfl) ?_
    refine e_callf _ _ _ 25 #[] #[] #[.int .i64 a0, .slice A1z a1.length c1z, .slice A2z a2.length c2z] #[.int .i64 a0, .slice A1z a1.length c1z, .slice A2z a2.length c2z] rfl (by kernel_rfl) (by kernel_rfl) (by kernel_rfl) (enter25 _) (assizeref08zBefore_calls a0 A1z c1z a1 A2z c2z a2 (memOf _) _ (Inv.start _) (hI.rd hr1z) hl1z (hI.rd hr2z) hl2z _ hy62) ?_
    rintro _ _ ⟨A63, c64, rfl, hI'⟩
    replace hI := hI.call0 hI'
    clear hI'
    refine ⟨_, rfl, ?_⟩
    refine o_batch 4 [] [.p, .p, .p, .p, .p] [(39, .tuple #[.slice A63 y61.1.length c64, .bool y61.2]), (44, .slice A63 y61.1.length c64), (45, .bool y61.2), (13, .slice A63 y61.1.length c64), (14, .bool y61.2)] [] trivial trivial (by kernel_rfl) (by kernel_rfl) (by kernel_rfl) ?_
    refine r_out (by kernel_rfl) ?_
    refine go_seq ?_
    refine r_in ?_
    replace H := cond_some H
    rcases H with ⟨hc72, H⟩ | ⟨hc72, H⟩
    · refine o_batch 0 [] [.p, .p, .p, .c true, .p, .p] [(46, .int .i64 y21.2), (47, .int .i64 y29.2), (48, .bool (y21.2 == y29.2)), (49, .bool true), (50, .slice A23 y21.1.length c24), (51, .slice A31 y29.1.length c32)] [((bif (y21.2 == y29.2) == true then 0 else -1), 1)] trivial ⟨(bndEq hc72), trivial⟩ (by kernel_rfl) (by kernel_rfl) (by kernel_rfl) ?_
      replace H := bind_some H
      obtain ⟨y73, hy74, H⟩ := H
      refine o_eff 6 _ rfl (by kernel_rfl) ?_
      refine e_callf _ _ _ 18 #[] #[] #[.slice A23 y21.1.length c24, .slice A31 y29.1.length c32] #[.slice A23 y21.1.length c24, .slice A31 y29.1.length c32] rfl (by kernel_rfl) (by kernel_rfl) (by kernel_rfl) (enter18 _) (assizeref03zSameVals_calls A23 c24 y21.1 A31 c32 y29.1 (memOf _) _ (Inv.start _) (hI.row 1 rfl) (hI.rowle 1 rfl) (hI.row 2 rfl) (hI.rowle 2 rfl) _ hy74) ?_
      rintro _ _ ⟨rfl, hI'⟩
      replace hI := hI.call0 hI'
      clear hI'
      refine ⟨_, rfl, ?_⟩
      replace H := cond_some H
      rcases H with ⟨hc75, H⟩ | ⟨hc75, H⟩
      · replace H := cond_some H
        rcases H with ⟨hc76, H⟩ | ⟨hc76, H⟩
        · refine o_batch 7 [] [.p, .c true, .p, .p, .p, .p, .c true, .p, .p] [(53, .bool y73), (54, .bool true), (55, .bool y53.2), (56, .bool y61.2), (57, .bool (y53.2 == y61.2)), (58, .bool (y53.2 == y61.2)), (59, .bool true), (60, .slice A55 y53.1.length c56), (61, .slice A63 y61.1.length c64)] [((bif y73 == true then 0 else -1), 1), ((bif (y53.2 == y61.2) == true then 0 else -1), 1)] trivial ⟨(bndEq hc75), (bndEq hc76), trivial⟩ (by kernel_rfl) (by kernel_rfl) (by kernel_rfl) ?_
          replace H := bind_some H
          obtain ⟨y77, hy78, H⟩ := H
          refine o_eff 16 _ rfl (by kernel_rfl) ?_
          refine e_callf _ _ _ 18 #[] #[] #[.slice A55 y53.1.length c56, .slice A63 y61.1.length c64] #[.slice A55 y53.1.length c56, .slice A63 y61.1.length c64] rfl (by kernel_rfl) (by kernel_rfl) (by kernel_rfl) (enter18 _) (assizeref03zSameVals_calls A55 c56 y53.1 A63 c64 y61.1 (memOf _) _ (Inv.start _) (hI.row 5 rfl) (hI.rowle 5 rfl) (hI.row 6 rfl) (hI.rowle 6 rfl) _ hy78) ?_
          rintro _ _ ⟨rfl, hI'⟩
          replace hI := hI.call0 hI'
          clear hI'
          refine ⟨_, rfl, ?_⟩
          refine o_batch 17 [] [.p, .p] [(63, .bool y77), (6, .bool y77)] [] trivial trivial (by kernel_rfl) (by kernel_rfl) (by kernel_rfl) ?_
          refine r_out (by kernel_rfl) ?_
          replace H := Option.some.inj H
          subst H
          exact go_return (.bool y77) Try.func5 (by kernel_rfl) ⟨rfl, hI.pick [] (by decide) rfl⟩
        · refine o_batch 7 [] [.p, .c true, .p, .p, .p, .p, .c false, .p, .p, .p, .p, .p] [(53, .bool y73), (54, .bool true), (55, .bool y53.2), (56, .bool y61.2), (57, .bool (y53.2 == y61.2)), (58, .bool (y53.2 == y61.2)), (59, .bool false), (60, undef), (61, undef), (62, undef), (63, .bool false), (6, .bool false)] [((bif y73 == true then 0 else -1), 1), ((bif (y53.2 == y61.2) == false then 0 else -1), 1)] trivial ⟨(bndEq hc75), (bndEq hc76), trivial⟩ (by kernel_rfl) (by kernel_rfl) (by kernel_rfl) ?_
          refine r_out (by kernel_rfl) ?_
          replace H := Option.some.inj H
          subst H
          exact go_return (.bool false) Try.func5 (by kernel_rfl) ⟨rfl, hI.pick [] (by decide) rfl⟩
      · refine o_batch 7 [] [.p, .c false, .p, .p, .p, .p, .p, .p, .p, .p, .p, .p] [(53, .bool y73), (54, .bool false), (55, undef), (56, undef), (57, undef), (58, .bool false), (59, .bool false), (60, undef), (61, undef), (62, undef), (63, .bool false), (6, .bool false)] [((bif y73 == false then 0 else -1), 1)] trivial ⟨(bndEq hc75), trivial⟩ (by kernel_rfl) (by kernel_rfl) (by kernel_rfl) ?_
        refine r_out (by kernel_rfl) ?_
        replace H := Option.some.inj H
        subst H
        exact go_return (.bool false) Try.func5 (by kernel_rfl) ⟨rfl, hI.pick [] (by decide) rfl⟩
    · refine o_batch 0 [] [.p, .p, .p, .c false, .p, .p, .p, .p, .p, .p, .p, .p, .p, .p, .p, .p, .p, .p, .p] [(46, .int .i64 y21.2), (47, .int .i64 y29.2), (48, .bool (y21.2 == y29.2)), (49, .bool false), (50, undef), (51, undef), (52, undef), (53, .bool false), (54, .bool false), (55, undef), (56, undef), (57, undef), (58, .bool false), (59, .bool false), (60, undef), (61, undef), (62, undef), (63, .bool false), (6, .bool false)] [((bif (y21.2 == y29.2) == false then 0 else -1), 1)] trivial ⟨(bndEq hc72), trivial⟩ (by kernel_rfl) (by kernel_rfl) (by kernel_rfl) ?_
      refine r_out (by kernel_rfl) ?_
      replace H := Option.some.inj H
      subst H
      exact go_return (.bool false) Try.func5 (by kernel_rfl) ⟨rfl, hI.pick [] (by decide) rfl⟩

/-! ### assizelaw08.StateTurns -/
theorem enter6 (a : Array Value) : Sem.pureRun Try.prog (callFunc 6 a) = some (.enter 6 a) := by kernel_rfl
theorem assizelaw08zStateTurns_calls (a0 : Int) (A1z : Option Addr) (c1z : Nat) (a1 : List Int) (A2z : Option Addr) (c2z : Nat) (a2 : List Int) (M : Mem) (w : World) (hI : Inv M w []) (hr1z : rdS (tInt .i64) M.blk A1z a1) (hl1z : a1.length ≤ c1z) (hr2z : rdS (tInt .i64) M.blk A2z a2) (hl2z : a2.length ≤ c2z) (r : Bool) (H : assizelaw08zStateTurns a0 a1 a2 = some r) :
    Calls Try.prog 6 #[.int .i64 a0, .slice A1z a1.length c1z, .slice A2z a2.length c2z] w fun e w' => e = .returned (.bool r) ∧ Inv M w' [] := by
  refine calls_go (updL (fun _ => undef) [(0, .int .i64 a0), (1, .slice A1z a1.length c1z), (2, .slice A2z a2.length c2z)]) Try.func6 rfl (by kernel_rfl) ?_
  intro cs
  unfold assizelaw08zStateTurns at H
  refine go_seq ?_
  refine r_in ?_
  refine o_batch 0 [] [.p] [(6, .bool false)] [] trivial trivial (by kernel_rfl) (by kernel_rfl) (by kernel_rfl) ?_
  refine r_out (by kernel_rfl) ?_
  refine go_seq ?_
  refine go_seq ?_
  refine r_in ?_
  replace H := bind_some H
  obtain ⟨y6, hy7, H⟩ := H
  refine o_eff 0 _ rfl (by kernel_rfl) ?_
  refine e_callf _ _ _ 13 #[] #[] #[] #[] rfl (by kernel_rfl) (by kernel_rfl) (by kernel_rfl) (enter13 _) (assizelaw08zalive_calls (memOf _) _ (Inv.start _) _ hy7) ?_
  rintro _ _ ⟨rfl, hI'⟩
  replace hI := hI.call0 hI'
  clear hI'
  refine ⟨_, rfl, ?_⟩
  refine o_batch 1 [] [.p] [(16, .bool (!y6))] [] trivial trivial (by kernel_rfl) (by kernel_rfl) (by kernel_rfl) ?_
  refine r_out (by kernel_rfl) ?_
  replace H := cond_some H
  rcases H with ⟨hc8, H⟩ | ⟨hc8, H⟩
  · refine go_then' (t := !y6) (by kernel_rfl) hc8 ?_
    refine go_seq ?_
    refine r_in ?_
    refine o_batch 0 [] [.p] [(6, .bool false)] [] trivial trivial (by kernel_rfl) (by kernel_rfl) (by kernel_rfl) ?_
    refine r_out (by kernel_rfl) ?_
    replace H := Option.some.inj H
    subst H
    exact go_return (.bool false) Try.func6 (by kernel_rfl) ⟨rfl, hI⟩
  · refine go_else' (t := !y6) (by kernel_rfl) hc8 ?_
    refine go_skip ?_
    refine go_seq ?_
    refine r_in ?_
    refine o_batch 0 [] [.p] [(18, .int .i64 a0)] [] trivial trivial (by kernel_rfl) (by kernel_rfl) (by kernel_rfl) ?_
    replace H := bind_some H
    obtain ⟨y13, hy14, H⟩ := H
    refine o_eff 1 _ rfl (by kernel_rfl) ?_
    refine e_callf _ _ _ 19 #[] #[] #[.int .i64 a0] #[.int .i64 a0] rfl (by kernel_rfl) (by kernel_rfl) (by kernel_rfl) (enter19 _) (state_Start_calls a0 (memOf _) _ (Inv.start _) _ hy14) ?_
    rintro _ _ ⟨A15, c16, rfl, hI'⟩
    replace hI := hI.call0 hI'
    clear hI'
    refine ⟨_, rfl, ?_⟩
    refine o_batch 2 [] [.p, .p, .p, .p, .p] [(17, .tuple #[.slice A15 y13.1.length c16, .int .i64 y13.2]), (20, .slice A15 y13.1.length c16), (21, .int .i64 y13.2), (7, .slice A15 y13.1.length c16), (8, .int .i64 y13.2)] [] trivial trivial (by kernel_rfl) (by kernel_rfl) (by kernel_rfl) ?_
    refine r_out (by kernel_rfl) ?_
    refine go_seq ?_
    refine go_seq ?_
    refine r_in ?_
    refine o_batch 0 [] [.p] [(9, .int .i64 0)] [] trivial trivial (by kernel_rfl) (by kernel_rfl) (by kernel_rfl) ?_
    refine r_out (by kernel_rfl) ?_
    refine go_block ?_
    refine go_iter (assizelaw08zStateTurns.s1 a0 a1 a2) (fun (l222, x225, x226) f w => ∃ (j : Nat → Value) (A223 : Option Addr) (c224 : Nat), f = updL j [(0, .int .i64 a0), (1, .slice A1z a1.length c1z), (2, .slice A2z a2.length c2z), (7, .slice A223 l222.length c224), (8, .int .i64 x225), (9, .int .i64 x226)] ∧ Inv M w [.row (tInt .i64) 2 A223 l222.length c224 l222]) H ⟨_, A15, c16, at_slots _ (by kernel_rfl), hI⟩ ?_
    clear H hI
    rintro ⟨l222, x225, x226⟩ _ _ o1 H ⟨_, A223, c224, rfl, hI⟩ hin1 hout1
    refine go_seq ?_
    refine go_seq_join (o := o1) (fun b231 f w => ∃ (j : Nat → Value), f = updL j [(0, .int .i64 a0), (1, .slice A1z a1.length c1z), (2, .slice A2z a2.length c2z), (7, .slice A223 l222.length c224), (8, .int .i64 x225), (9, .int .i64 x226), (29, .bool b231)] ∧ Inv M w [.row (tInt .i64) 2 A223 l222.length c224 l222]) (fun b231 => assizelaw08zStateTurns.j2 a0 a1 a2 l222 x225 x226 b231) ?_ (fun hJ232 => ?_)
    · clear H hI
      rintro b231 _ _ ⟨_, rfl, hI⟩ H
      replace H := cond_some H
      rcases H with ⟨hc233, H⟩ | ⟨hc233, H⟩
      · refine go_then' (t := b231) (by kernel_rfl) hc233 ?_
        refine go_skip ?_
        refine go_seq ?_
        refine go_block ?_
        refine go_seq ?_
        refine r_in ?_
        replace H := must_some H
        obtain ⟨g265, H⟩ := H
        obtain ⟨b266, q267, rfl, _⟩ := rdS.fopen hr2z rfl g265
        refine o_batch 0 [(b266, q267 + x226.toNat * 1, [.int .i64 (idx a2 x226)])] [.p, .p, .p, .p, .x, .l 0 0] [(33, .int .i64 a0), (34, .slice A223 l222.length c224), (35, .slice (some ⟨b266, q267, none⟩) a2.length c2z), (36, .int .i64 x226), (37, .pointer (some ⟨b266, q267 + x226.toNat * 1, none⟩)), (38, .int .i64 (idx a2 x226))] [(x226, a2.length)] ⟨(hI.lies (rdS.flook hr2z rfl g265)), trivial⟩ ⟨g265, trivial⟩ (by kernel_rfl) (by kernel_rfl) (by kernel_rfl) ?_
        replace H := bind_some H
        obtain ⟨y268, hy269, H⟩ := H
        refine o_eff 6 _ rfl (by kernel_rfl) ?_
        refine e_callf _ _ _ 15 #[] #[] #[.int .i64 a0, .slice A223 l222.length c224, .int .i64 (idx a2 x226)] #[.int .i64 a0, .slice A223 l222.length c224, .int .i64 (idx a2 x226)] rfl (by kernel_rfl) (by kernel_rfl) (by kernel_rfl) (enter15 _) (state_Apply_calls a0 A223 c224 l222 (idx a2 x226) (memOf _) _ (Inv.start _) (hI.row 0 rfl) (hI.rowle 0 rfl) _ hy269) ?_
        rintro _ _ ⟨A270, c271, rfl, hI'⟩
        replace hI := hI.call0 hI'
        clear hI'
        refine ⟨_, rfl, ?_⟩
        refine o_batch 7 [] [.p, .p, .p, .p, .p] [(32, .tuple #[.slice A270 y268.1.length c271, .int .i64 y268.2]), (40, .slice A270 y268.1.length c271), (41, .int .i64 y268.2), (7, .slice A270 y268.1.length c271), (8, .int .i64 y268.2)] [] trivial trivial (by kernel_rfl) (by kernel_rfl) (by kernel_rfl) ?_
        refine r_out (by kernel_rfl) ?_
        refine go_seq_join (o := o1) (fun b275 f w => ∃ (j : Nat → Value), f = updL j [(0, .int .i64 a0), (1, .slice A1z a1.length c1z), (2, .slice (some ⟨b266, q267, none⟩) a2.length c2z), (7, .slice A270 y268.1.length c271), (8, .int .i64 y268.2), (9, .int .i64 x226), (49, .bool b275)] ∧ Inv M w [.row (tInt .i64) 2 A270 y268.1.length c271 y268.1]) (fun b275 => assizelaw08zStateTurns.j3 x226 y268 b275) ?_ (fun hJ276 => ?_)
        · clear H hI
          rintro b275 _ _ ⟨_, rfl, hI⟩ H
          replace H := cond_some H
          rcases H with ⟨hc277, H⟩ | ⟨hc277, H⟩
          · refine go_then' (t := b275) (by kernel_rfl) hc277 ?_
            refine go_seq ?_
            refine r_in ?_
            refine o_batch 0 [] [.p] [(6, .bool false)] [] trivial trivial (by kernel_rfl) (by kernel_rfl) (by kernel_rfl) ?_
            refine r_out (by kernel_rfl) ?_
            replace H := out_some H
            obtain ⟨_, H, he1⟩ := H
            have he := (hout1 _ he1).symm
            subst he
            replace H := Option.some.inj H
            subst H
            exact go_return (.bool false) Try.func6 (by kernel_rfl) ⟨rfl, hI.pick [] (by decide) rfl⟩
          · refine go_else' (t := b275) (by kernel_rfl) hc277 ?_
            refine go_skip ?_
            refine go_inBlock ?_
            refine r_in ?_
            refine o_batch 0 [] [.p, .p, .p] [(30, .int .i64 x226), (31, .int .i64 (w64 (x226 + 1))), (9, .int .i64 (w64 (x226 + 1)))] [] trivial trivial (by kernel_rfl) (by kernel_rfl) (by kernel_rfl) ?_
            refine r_out (by kernel_rfl) ?_
            exact hin1 _ (Option.some.inj H).symm _ _ ⟨_, A270, c271, at_slots _ (by kernel_rfl), hI⟩
        · refine r_in ?_
          replace H := cond_some H
          rcases H with ⟨hc278, H⟩ | ⟨hc278, H⟩
          · refine o_batch 0 [] [.p, .p, .c true, .p, .p] [(42, .int .i64 y268.2), (43, .bool (y268.2 == 0)), (44, .bool true), (45, .int .i64 a0), (46, .slice A270 y268.1.length c271)] [((bif (y268.2 == 0) == true then 0 else -1), 1)] trivial ⟨(bndEq hc278), trivial⟩ (by kernel_rfl) (by kernel_rfl) (by kernel_rfl) ?_
            replace H := bind_some H
            obtain ⟨y279, hy280, H⟩ := H
            refine o_eff 5 _ rfl (by kernel_rfl) ?_
            refine e_callf _ _ _ 21 #[] #[] #[.int .i64 a0, .slice A270 y268.1.length c271] #[.int .i64 a0, .slice A270 y268.1.length c271] rfl (by kernel_rfl) (by kernel_rfl) (by kernel_rfl) (enter21 _) (state_Check_calls a0 A270 c271 y268.1 (memOf _) _ (Inv.start _) (hI.row 1 rfl) (hI.rowle 1 rfl) _ hy280) ?_
            rintro _ _ ⟨rfl, hI'⟩
            replace hI := hI.call0 hI'
            clear hI'
            refine ⟨_, rfl, ?_⟩
            refine o_batch 6 [] [.p, .p] [(48, .bool (y279 != 0)), (49, .bool (y279 != 0))] [] trivial trivial (by kernel_rfl) (by kernel_rfl) (by kernel_rfl) ?_
            refine r_out (by kernel_rfl) ?_
            exact hJ276 (y279 != 0) _ _ ⟨_, at_slots _ (by kernel_rfl), hI.pick [1] (by decide) rfl⟩ H
          · refine o_batch 0 [] [.p, .p, .c false, .p, .p, .p, .p, .p] [(42, .int .i64 y268.2), (43, .bool (y268.2 == 0)), (44, .bool false), (45, undef), (46, undef), (47, undef), (48, undef), (49, .bool false)] [((bif (y268.2 == 0) == false then 0 else -1), 1)] trivial ⟨(bndEq hc278), trivial⟩ (by kernel_rfl) (by kernel_rfl) (by kernel_rfl) ?_
            refine r_out (by kernel_rfl) ?_
            exact hJ276 false _ _ ⟨_, at_slots _ (by kernel_rfl), hI.pick [1] (by decide) rfl⟩ H
      · refine go_else' (t := b231) (by kernel_rfl) hc233 ?_
        refine go_exit rfl ?_
        refine go_seq ?_
        refine r_in ?_
        refine o_batch 0 [] [.p, .p] [(51, .int .i64 a0), (52, .slice A2z a2.length c2z)] [] trivial trivial (by kernel_rfl) (by kernel_rfl) (by kernel_rfl) ?_
        replace H := bind_some H
        obtain ⟨y285, hy286, H⟩ := H
        refine o_eff 2 _ rfl (by kernel_rfl) ?_
        refine e_callf _ _ _ 23 #[] #[] #[.int .i64 a0, .slice A2z a2.length c2z] #[.int .i64 a0, .slice A2z a2.length c2z] rfl (by kernel_rfl) (by kernel_rfl) (by kernel_rfl) (enter23 _) (state_Fold_calls a0 A2z c2z a2 (memOf _) _ (Inv.start _) (hI.rd hr2z) hl2z _ hy286) ?_
        rintro _ _ ⟨A287, c288, rfl, hI'⟩
        replace hI := hI.call0 hI'
        clear hI'
        refine ⟨_, rfl, ?_⟩
        refine o_batch 3 [] [.p, .p, .p, .p, .p] [(50, .tuple #[.slice A287 y285.1.length c288, .int .i64 y285.2]), (54, .slice A287 y285.1.length c288), (55, .int .i64 y285.2), (10, .slice A287 y285.1.length c288), (11, .int .i64 y285.2)] [] trivial trivial (by kernel_rfl) (by kernel_rfl) (by kernel_rfl) ?_
        refine r_out (by kernel_rfl) ?_
        refine go_seq ?_
        refine go_seq_join (o := o1) (fun b299 f w => ∃ (j : Nat → Value), f = updL j [(0, .int .i64 a0), (1, .slice A1z a1.length c1z), (2, .slice A2z a2.length c2z), (68, .bool b299)] ∧ Inv M w []) (fun b299 => assizelaw08zStateTurns.j4 a0 a1 a2 b299) ?_ (fun hJ300 => ?_)
        · clear H hI
          rintro b299 _ _ ⟨_, rfl, hI⟩ H
          replace H := cond_some H
          rcases H with ⟨hc301, H⟩ | ⟨hc301, H⟩
          · refine go_then' (t := b299) (by kernel_rfl) hc301 ?_
            refine go_seq ?_
            refine r_in ?_
            refine o_batch 0 [] [.p] [(6, .bool false)] [] trivial trivial (by kernel_rfl) (by kernel_rfl) (by kernel_rfl) ?_
            refine r_out (by kernel_rfl) ?_
            replace H := out_some H
            obtain ⟨_, H, he1⟩ := H
            have he := (hout1 _ he1).symm
            subst he
            replace H := Option.some.inj H
            subst H
            exact go_return (.bool false) Try.func6 (by kernel_rfl) ⟨rfl, hI⟩
          · refine go_else' (t := b299) (by kernel_rfl) hc301 ?_
            refine go_skip ?_
            refine go_seq ?_
            refine r_in ?_
            refine o_batch 0 [] [.p, .p, .p] [(70, .int .i64 a0), (71, .slice A1z a1.length c1z), (72, .slice A2z a2.length c2z)] [] trivial trivial (by kernel_rfl) (by kernel_rfl) (by kernel_rfl) ?_
            replace H := bind_some H
            obtain ⟨y306, hy307, H⟩ := H
            refine o_eff 3 _ rfl (by kernel_rfl) ?_
            refine e_callf _ _ _ 16 #[] #[] #[.int .i64 a0, .slice A1z a1.length c1z, .slice A2z a2.length c2z] #[.int .i64 a0, .slice A1z a1.length c1z, .slice A2z a2.length c2z] rfl (by kernel_rfl) (by kernel_rfl) (by kernel_rfl) (enter16 _) (state_Before_calls a0 A1z c1z a1 A2z c2z a2 (memOf _) _ (Inv.start _) (hI.rd hr1z) hl1z (hI.rd hr2z) hl2z _ hy307) ?_
            rintro _ _ ⟨A308, c309, rfl, hI'⟩
            replace hI := hI.call0 hI'
            clear hI'
            refine ⟨_, rfl, ?_⟩
            refine o_batch 4 [] [.p, .p, .p, .p, .p] [(69, .tuple #[.slice A308 y306.1.length c309, .bool y306.2]), (74, .slice A308 y306.1.length c309), (75, .bool y306.2), (12, .slice A308 y306.1.length c309), (13, .bool y306.2)] [] trivial trivial (by kernel_rfl) (by kernel_rfl) (by kernel_rfl) ?_
            refine r_out (by kernel_rfl) ?_
            refine go_seq ?_
            refine go_seq_join (o := o1) (fun b314 f w => ∃ (j : Nat → Value), f = updL j [(0, .int .i64 a0), (1, .slice A1z a1.length c1z), (2, .slice A2z a2.length c2z), (12, .slice A308 y306.1.length c309), (81, .bool b314)] ∧ Inv M w [.row (tInt .i64) 2 A308 y306.1.length c309 y306.1]) (fun b314 => assizelaw08zStateTurns.j5 a0 a1 a2 y306 b314) ?_ (fun hJ315 => ?_)
            · clear H hI
              rintro b314 _ _ ⟨_, rfl, hI⟩ H
              replace H := cond_some H
              rcases H with ⟨hc316, H⟩ | ⟨hc316, H⟩
              · refine go_then' (t := b314) (by kernel_rfl) hc316 ?_
                refine go_seq ?_
                refine r_in ?_
                refine o_batch 0 [] [.p, .p, .p, .p] [(82, .slice A308 y306.1.length c309), (83, .int .i64 (y306.1.length : Int)), (84, .bool ((y306.1.length : Int) == 0)), (6, .bool ((y306.1.length : Int) == 0))] [] trivial trivial (by kernel_rfl) (by kernel_rfl) (by kernel_rfl) ?_
                refine r_out (by kernel_rfl) ?_
                replace H := out_some H
                obtain ⟨_, H, he1⟩ := H
                have he := (hout1 _ he1).symm
                subst he
                replace H := Option.some.inj H
                subst H
                exact go_return (.bool ((y306.1.length : Int) == 0)) Try.func6 (by kernel_rfl) ⟨rfl, hI.pick [] (by decide) rfl⟩
              · refine go_else' (t := b314) (by kernel_rfl) hc316 ?_
                refine go_skip ?_
                refine go_seq ?_
                refine go_seq ?_
                refine r_in ?_
                refine o_batch 0 [] [.p, .p] [(85, .int .i64 a0), (86, .slice A308 y306.1.length c309)] [] trivial trivial (by kernel_rfl) (by kernel_rfl) (by kernel_rfl) ?_
                replace H := bind_some H
                obtain ⟨y322, hy323, H⟩ := H
                refine o_eff 2 _ rfl (by kernel_rfl) ?_
                refine e_callf _ _ _ 21 #[] #[] #[.int .i64 a0, .slice A308 y306.1.length c309] #[.int .i64 a0, .slice A308 y306.1.length c309] rfl (by kernel_rfl) (by kernel_rfl) (by kernel_rfl) (enter21 _) (state_Check_calls a0 A308 c309 y306.1 (memOf _) _ (Inv.start _) (hI.row 0 rfl) (hI.rowle 0 rfl) _ hy323) ?_
                rintro _ _ ⟨rfl, hI'⟩
                replace hI := hI.call0 hI'
                clear hI'
                refine ⟨_, rfl, ?_⟩
                refine o_batch 3 [] [.p] [(88, .bool (y322 != 0))] [] trivial trivial (by kernel_rfl) (by kernel_rfl) (by kernel_rfl) ?_
                refine r_out (by kernel_rfl) ?_
                replace H := cond_some H
                rcases H with ⟨hc324, H⟩ | ⟨hc324, H⟩
                · refine go_then' (t := (y322 != 0)) (by kernel_rfl) hc324 ?_
                  refine go_seq ?_
                  refine r_in ?_
                  refine o_batch 0 [] [.p] [(6, .bool false)] [] trivial trivial (by kernel_rfl) (by kernel_rfl) (by kernel_rfl) ?_
                  refine r_out (by kernel_rfl) ?_
                  replace H := out_some H
                  obtain ⟨_, H, he1⟩ := H
                  have he := (hout1 _ he1).symm
                  subst he
                  replace H := Option.some.inj H
                  subst H
                  exact go_return (.bool false) Try.func6 (by kernel_rfl) ⟨rfl, hI.pick [] (by decide) rfl⟩
                · refine go_else' (t := (y322 != 0)) (by kernel_rfl) hc324 ?_
                  refine go_skip ?_
                  refine go_seq ?_
                  refine go_seq ?_
                  refine r_in ?_
                  refine o_batch 0 [] [.p] [(14, .int .i64 0)] [] trivial trivial (by kernel_rfl) (by kernel_rfl) (by kernel_rfl) ?_
                  refine r_out (by kernel_rfl) ?_
                  refine go_block ?_
                  refine go_iter (assizelaw08zStateTurns.s6 a0 a1 a2) (fun (l465, x468) f w => ∃ (j : Nat → Value) (A466 : Option Addr) (c467 : Nat), f = updL j [(0, .int .i64 a0), (1, .slice A1z a1.length c1z), (2, .slice A2z a2.length c2z), (12, .slice A466 l465.length c467), (14, .int .i64 x468)] ∧ Inv M w [.row (tInt .i64) 2 A466 l465.length c467 l465]) H ⟨_, A308, c309, at_slots _ (by kernel_rfl), hI⟩ ?_
                  clear H hI
                  rintro ⟨l465, x468⟩ _ _ o2 H ⟨_, A466, c467, rfl, hI⟩ hin2 hout2
                  refine go_seq ?_
                  refine go_seq ?_
                  refine r_in ?_
                  refine o_batch 0 [] [.p, .p, .p, .p] [(89, .int .i64 x468), (90, .slice A2z a2.length c2z), (91, .int .i64 (a2.length : Int)), (92, .bool (decide (x468 < (a2.length : Int))))] [] trivial trivial (by kernel_rfl) (by kernel_rfl) (by kernel_rfl) ?_
                  refine r_out (by kernel_rfl) ?_
                  replace H := cond_some H
                  rcases H with ⟨hc470, H⟩ | ⟨hc470, H⟩
                  · refine go_then' (t := decide (x468 < (a2.length : Int))) (by kernel_rfl) hc470 ?_
                    refine go_skip ?_
                    refine go_seq ?_
                    refine go_block ?_
                    refine go_seq ?_
                    refine r_in ?_
                    replace H := must_some H
                    obtain ⟨g494, H⟩ := H
                    obtain ⟨b495, q496, rfl, _⟩ := rdS.fopen hr2z rfl g494
                    refine o_batch 0 [(b495, q496 + x468.toNat * 1, [.int .i64 (idx a2 x468)])] [.p, .p, .p, .p, .x, .l 0 0] [(96, .int .i64 a0), (97, .slice A466 l465.length c467), (98, .slice (some ⟨b495, q496, none⟩) a2.length c2z), (99, .int .i64 x468), (100, .pointer (some ⟨b495, q496 + x468.toNat * 1, none⟩)), (101, .int .i64 (idx a2 x468))] [(x468, a2.length)] ⟨(hI.lies (rdS.flook hr2z rfl g494)), trivial⟩ ⟨g494, trivial⟩ (by kernel_rfl) (by kernel_rfl) (by kernel_rfl) ?_
                    replace H := bind_some H
                    obtain ⟨y497, hy498, H⟩ := H
                    refine o_eff 6 _ rfl (by kernel_rfl) ?_
                    refine e_callf _ _ _ 15 #[] #[] #[.int .i64 a0, .slice A466 l465.length c467, .int .i64 (idx a2 x468)] #[.int .i64 a0, .slice A466 l465.length c467, .int .i64 (idx a2 x468)] rfl (by kernel_rfl) (by kernel_rfl) (by kernel_rfl) (enter15 _) (state_Apply_calls a0 A466 c467 l465 (idx a2 x468) (memOf _) _ (Inv.start _) (hI.row 0 rfl) (hI.rowle 0 rfl) _ hy498) ?_
                    rintro _ _ ⟨A499, c500, rfl, hI'⟩
                    replace hI := hI.call0 hI'
                    clear hI'
                    refine ⟨_, rfl, ?_⟩
                    refine o_batch 7 [] [.p, .p, .p, .p, .p] [(95, .tuple #[.slice A499 y497.1.length c500, .int .i64 y497.2]), (103, .slice A499 y497.1.length c500), (104, .int .i64 y497.2), (12, .slice A499 y497.1.length c500), (8, .int .i64 y497.2)] [] trivial trivial (by kernel_rfl) (by kernel_rfl) (by kernel_rfl) ?_
                    refine r_out (by kernel_rfl) ?_
                    refine go_seq ?_
                    refine r_in ?_
                    refine o_batch 0 [] [.p, .p] [(105, .int .i64 y497.2), (106, .bool (y497.2 != 0))] [] trivial trivial (by kernel_rfl) (by kernel_rfl) (by kernel_rfl) ?_
                    refine r_out (by kernel_rfl) ?_
                    replace H := cond_some H
                    rcases H with ⟨hc501, H⟩ | ⟨hc501, H⟩
                    · refine go_then' (t := (y497.2 != 0)) (by kernel_rfl) hc501 ?_
                      refine go_seq ?_
                      refine r_in ?_
                      refine o_batch 0 [] [.p] [(6, .bool false)] [] trivial trivial (by kernel_rfl) (by kernel_rfl) (by kernel_rfl) ?_
                      refine r_out (by kernel_rfl) ?_
                      replace H := out_some H
                      obtain ⟨_, H, he2⟩ := H
                      have he := (hout2 _ he2).symm
                      subst he
                      replace H := out_some H
                      obtain ⟨_, H, he1⟩ := H
                      have he := (hout1 _ he1).symm
                      subst he
                      replace H := Option.some.inj H
                      subst H
                      exact go_return (.bool false) Try.func6 (by kernel_rfl) ⟨rfl, hI.pick [] (by decide) rfl⟩
                    · refine go_else' (t := (y497.2 != 0)) (by kernel_rfl) hc501 ?_
                      refine go_skip ?_
                      refine go_inBlock ?_
                      refine r_in ?_
                      refine o_batch 0 [] [.p, .p, .p] [(93, .int .i64 x468), (94, .int .i64 (w64 (x468 + 1))), (14, .int .i64 (w64 (x468 + 1)))] [] trivial trivial (by kernel_rfl) (by kernel_rfl) (by kernel_rfl) ?_
                      refine r_out (by kernel_rfl) ?_
                      exact hin2 _ (Option.some.inj H).symm _ _ ⟨_, A499, c500, at_slots _ (by kernel_rfl), hI.pick [1] (by decide) rfl⟩
                  · refine go_else' (t := decide (x468 < (a2.length : Int))) (by kernel_rfl) hc470 ?_
                    refine go_exit rfl ?_
                    refine go_seq ?_
                    refine r_in ?_
                    refine o_batch 0 [] [.p, .p] [(107, .slice A466 l465.length c467), (108, .slice A1z a1.length c1z)] [] trivial trivial (by kernel_rfl) (by kernel_rfl) (by kernel_rfl) ?_
                    replace H := bind_some H
                    obtain ⟨y504, hy505, H⟩ := H
                    refine o_eff 2 _ rfl (by kernel_rfl) ?_
                    refine e_callf _ _ _ 18 #[] #[] #[.slice A466 l465.length c467, .slice A1z a1.length c1z] #[.slice A466 l465.length c467, .slice A1z a1.length c1z] rfl (by kernel_rfl) (by kernel_rfl) (by kernel_rfl) (enter18 _) (assizeref03zSameVals_calls A466 c467 l465 A1z c1z a1 (memOf _) _ (Inv.start _) (hI.row 0 rfl) (hI.rowle 0 rfl) (hI.rd hr1z) hl1z _ hy505) ?_
                    rintro _ _ ⟨rfl, hI'⟩
                    replace hI := hI.call0 hI'
                    clear hI'
                    refine ⟨_, rfl, ?_⟩
                    refine o_batch 3 [] [.p] [(6, .bool y504)] [] trivial trivial (by kernel_rfl) (by kernel_rfl) (by kernel_rfl) ?_
                    refine r_out (by kernel_rfl) ?_
                    replace H := out_some H
                    obtain ⟨_, H, he2⟩ := H
                    have he := (hout2 _ he2).symm
                    subst he
                    replace H := out_some H
                    obtain ⟨_, H, he1⟩ := H
                    have he := (hout1 _ he1).symm
                    subst he
                    replace H := Option.some.inj H
                    subst H
                    exact go_return (.bool y504) Try.func6 (by kernel_rfl) ⟨rfl, hI.pick [] (by decide) rfl⟩
            · refine r_in ?_
              replace H := cond_some H
              rcases H with ⟨hc506, H⟩ | ⟨hc506, H⟩
              · refine o_batch 0 [] [.p, .p, .c true, .p, .p, .p] [(76, .bool y306.2), (77, .bool (!y306.2)), (78, .bool true), (79, undef), (80, undef), (81, .bool true)] [((bif (!y306.2) == true then 0 else -1), 1)] trivial ⟨(bndEq hc506), trivial⟩ (by kernel_rfl) (by kernel_rfl) (by kernel_rfl) ?_
                refine r_out (by kernel_rfl) ?_
                exact hJ315 true _ _ ⟨_, at_slots _ (by kernel_rfl), hI⟩ H
              · refine o_batch 0 [] [.p, .p, .c false, .p, .p, .p] [(76, .bool y306.2), (77, .bool (!y306.2)), (78, .bool false), (79, .int .i64 a0), (80, .bool (a0 == 1)), (81, .bool (a0 == 1))] [((bif (!y306.2) == false then 0 else -1), 1)] trivial ⟨(bndEq hc506), trivial⟩ (by kernel_rfl) (by kernel_rfl) (by kernel_rfl) ?_
                refine r_out (by kernel_rfl) ?_
                exact hJ315 (a0 == 1) _ _ ⟨_, at_slots _ (by kernel_rfl), hI⟩ H
        · refine r_in ?_
          replace H := cond_some H
          rcases H with ⟨hc507, H⟩ | ⟨hc507, H⟩
          · refine o_batch 0 [] [.p, .p, .p, .c true, .p, .p, .p, .p, .p, .p, .p, .p, .p] [(56, .int .i64 x225), (57, .int .i64 y285.2), (58, .bool (x225 != y285.2)), (59, .bool true), (60, undef), (61, undef), (62, undef), (63, undef), (64, undef), (65, undef), (66, undef), (67, undef), (68, .bool true)] [((bif (x225 != y285.2) == true then 0 else -1), 1)] trivial ⟨(bndEq hc507), trivial⟩ (by kernel_rfl) (by kernel_rfl) (by kernel_rfl) ?_
            refine r_out (by kernel_rfl) ?_
            exact hJ300 true _ _ ⟨_, at_slots _ (by kernel_rfl), hI.pick [] (by decide) rfl⟩ H
          · replace H := cond_some H
            rcases H with ⟨hc508, H⟩ | ⟨hc508, H⟩
            · refine o_batch 0 [] [.p, .p, .p, .c false, .p, .p, .c true, .p, .p] [(56, .int .i64 x225), (57, .int .i64 y285.2), (58, .bool (x225 != y285.2)), (59, .bool false), (60, .int .i64 x225), (61, .bool (x225 == 0)), (62, .bool true), (63, .slice A223 l222.length c224), (64, .slice A287 y285.1.length c288)] [((bif (x225 != y285.2) == false then 0 else -1), 1), ((bif (x225 == 0) == true then 0 else -1), 1)] trivial ⟨(bndEq hc507), (bndEq hc508), trivial⟩ (by kernel_rfl) (by kernel_rfl) (by kernel_rfl) ?_
              replace H := bind_some H
              obtain ⟨y509, hy510, H⟩ := H
              refine o_eff 9 _ rfl (by kernel_rfl) ?_
              refine e_callf _ _ _ 18 #[] #[] #[.slice A223 l222.length c224, .slice A287 y285.1.length c288] #[.slice A223 l222.length c224, .slice A287 y285.1.length c288] rfl (by kernel_rfl) (by kernel_rfl) (by kernel_rfl) (enter18 _) (assizeref03zSameVals_calls A223 c224 l222 A287 c288 y285.1 (memOf _) _ (Inv.start _) (hI.row 0 rfl) (hI.rowle 0 rfl) (hI.row 1 rfl) (hI.rowle 1 rfl) _ hy510) ?_
              rintro _ _ ⟨rfl, hI'⟩
              replace hI := hI.call0 hI'
              clear hI'
              refine ⟨_, rfl, ?_⟩
              refine o_batch 10 [] [.p, .p, .p] [(66, .bool (!y509)), (67, .bool (!y509)), (68, .bool (!y509))] [] trivial trivial (by kernel_rfl) (by kernel_rfl) (by kernel_rfl) ?_
              refine r_out (by kernel_rfl) ?_
              exact hJ300 (!y509) _ _ ⟨_, at_slots _ (by kernel_rfl), hI.pick [] (by decide) rfl⟩ H
            · refine o_batch 0 [] [.p, .p, .p, .c false, .p, .p, .c false, .p, .p, .p, .p, .p, .p] [(56, .int .i64 x225), (57, .int .i64 y285.2), (58, .bool (x225 != y285.2)), (59, .bool false), (60, .int .i64 x225), (61, .bool (x225 == 0)), (62, .bool false), (63, undef), (64, undef), (65, undef), (66, undef), (67, .bool false), (68, .bool false)] [((bif (x225 != y285.2) == false then 0 else -1), 1), ((bif (x225 == 0) == false then 0 else -1), 1)] trivial ⟨(bndEq hc507), (bndEq hc508), trivial⟩ (by kernel_rfl) (by kernel_rfl) (by kernel_rfl) ?_
              refine r_out (by kernel_rfl) ?_
              exact hJ300 false _ _ ⟨_, at_slots _ (by kernel_rfl), hI.pick [] (by decide) rfl⟩ H
    · refine r_in ?_
      replace H := cond_some H
      rcases H with ⟨hc511, H⟩ | ⟨hc511, H⟩
      · refine o_batch 0 [] [.p, .p, .p, .p, .c true, .p, .p, .p] [(22, .int .i64 x226), (23, .slice A2z a2.length c2z), (24, .int .i64 (a2.length : Int)), (25, .bool (decide (x226 < (a2.length : Int)))), (26, .bool true), (27, .int .i64 x225), (28, .bool (x225 == 0)), (29, .bool (x225 == 0))] [((bif (decide (x226 < (a2.length : Int))) == true then 0 else -1), 1)] trivial ⟨(bndEq hc511), trivial⟩ (by kernel_rfl) (by kernel_rfl) (by kernel_rfl) ?_
        refine r_out (by kernel_rfl) ?_
        exact hJ232 (x225 == 0) _ _ ⟨_, at_slots _ (by kernel_rfl), hI⟩ H
      · refine o_batch 0 [] [.p, .p, .p, .p, .c false, .p, .p, .p] [(22, .int .i64 x226), (23, .slice A2z a2.length c2z), (24, .int .i64 (a2.length : Int)), (25, .bool (decide (x226 < (a2.length : Int)))), (26, .bool false), (27, undef), (28, undef), (29, .bool false)] [((bif (decide (x226 < (a2.length : Int))) == false then 0 else -1), 1)] trivial ⟨(bndEq hc511), trivial⟩ (by kernel_rfl) (by kernel_rfl) (by kernel_rfl) ?_
        refine r_out (by kernel_rfl) ?_
        exact hJ232 false _ _ ⟨_, at_slots _ (by kernel_rfl), hI⟩ H

end Go.Proofs.YtmfihodpbladeaaT
