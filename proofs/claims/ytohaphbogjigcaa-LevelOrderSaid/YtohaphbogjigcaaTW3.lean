/- The walks, part 3: each call computes its plain function. -/
import Derived.Test.YtohaphbogjigcaaTW2
import Derived.Test.YtohaphbogjigcaaProg
namespace Go.Proofs.YtohaphbogjigcaaT
open Go Go.Proofs Go.Proofs.YtohaphbogjigcaaE
set_option linter.unusedVariables false
set_option linter.unusedSimpArgs false
set_option maxHeartbeats 0
set_option maxRecDepth 4096
/-! ### level.Below -/
theorem enter12 (a : Array Value) : Sem.pureRun Try.prog (callFunc 12 a) = some (.enter 12 a) := by kernel_rfl
theorem level_Below_calls (a0 : Int) (a1 : Int) (M : Mem) (w : World) (hI : Inv M w []) (r : Bool) (H : level_Below a0 a1 = some r) :
    Calls Try.prog 12 #[.int .i64 a0, .int .i64 a1] w fun e w' => e = .returned (.bool r) ∧ Inv M w' [] := by
  refine calls_go (updL (fun _ => undef) [(0, .int .i64 a0), (1, .int .i64 a1)]) Try.func12 rfl (by kernel_rfl) ?_
  intro cs
  unfold level_Below at H
  refine go_seq ?_
  refine r_in ?_
  refine o_batch 0 [] [.p] [(4, .bool false)] [] trivial trivial (by kernel_rfl) (by kernel_rfl) (by kernel_rfl) ?_
  refine r_out (by kernel_rfl) ?_
  refine go_seq ?_
  refine r_in ?_
  refine o_batch 0 [] [.p] [(5, .int .i64 a0)] [] trivial trivial (by kernel_rfl) (by kernel_rfl) (by kernel_rfl) ?_
  replace H := bind_some H
  obtain ⟨y11, hy12, H⟩ := H
  refine o_eff 1 _ rfl (by kernel_rfl) ?_
  refine e_callf _ _ _ 23 #[] #[] #[.int .i64 a0] #[.int .i64 a0] rfl (by kernel_rfl) (by kernel_rfl) (by kernel_rfl) (enter23 _) (level_right_calls a0 (memOf _) _ (Inv.start _) _ hy12) ?_
  rintro _ _ ⟨rfl, hI'⟩
  replace hI := hI.call0 hI'
  clear hI'
  refine ⟨_, rfl, ?_⟩
  replace H := cond_some H
  rcases H with ⟨hc13, H⟩ | ⟨hc13, H⟩
  · refine o_batch 2 [] [.c true, .p] [(7, .bool true), (8, .int .i64 a1)] [((bif y11 == true then 0 else -1), 1)] trivial ⟨(bndEq hc13), trivial⟩ (by kernel_rfl) (by kernel_rfl) (by kernel_rfl) ?_
    replace H := bind_some H
    obtain ⟨y14, hy15, H⟩ := H
    refine o_eff 4 _ rfl (by kernel_rfl) ?_
    refine e_callf _ _ _ 23 #[] #[] #[.int .i64 a1] #[.int .i64 a1] rfl (by kernel_rfl) (by kernel_rfl) (by kernel_rfl) (enter23 _) (level_right_calls a1 (memOf _) _ (Inv.start _) _ hy15) ?_
    rintro _ _ ⟨rfl, hI'⟩
    replace hI := hI.call0 hI'
    clear hI'
    refine ⟨_, rfl, ?_⟩
    replace H := cond_some H
    rcases H with ⟨hc16, H⟩ | ⟨hc16, H⟩
    · refine o_batch 5 [] [.p, .c true] [(10, .bool y14), (11, .bool true)] [((bif y14 == true then 0 else -1), 1)] trivial ⟨(bndEq hc16), trivial⟩ (by kernel_rfl) (by kernel_rfl) (by kernel_rfl) ?_
      replace H := bind_some H
      obtain ⟨y17, hy18, H⟩ := H
      refine o_eff 7 _ rfl (by kernel_rfl) ?_
      refine e_callf _ _ _ 24 #[] #[] #[] #[] rfl (by kernel_rfl) (by kernel_rfl) (by kernel_rfl) (enter24 _) (level_below_calls (memOf _) _ (Inv.start _) _ hy18) ?_
      rintro _ _ ⟨rfl, hI'⟩
      replace hI := hI.call0 hI'
      clear hI'
      refine ⟨_, rfl, ?_⟩
      refine o_batch 8 [] [.p] [(13, .int .i64 a0)] [] trivial trivial (by kernel_rfl) (by kernel_rfl) (by kernel_rfl) ?_
      replace H := must_some H
      obtain ⟨g19, H⟩ := H
      refine o_eff 9 _ rfl (by kernel_rfl) ?_
      refine e_index (fun x : Int => .int .u16 x) 42 41 _ _ 9 _ ([idx y17 (0 : Int), idx y17 (1 : Int), idx y17 (2 : Int), idx y17 (3 : Int), idx y17 (4 : Int), idx y17 (5 : Int), idx y17 (6 : Int), idx y17 (7 : Int), idx y17 (8 : Int)] : List Int) .i64 a0 rfl (by kernel_rfl) (by kernel_rfl) (by kernel_rfl) (by kernel_rfl) (by kernel_rfl) rfl (by kernel_rfl) g19 ?_
      replace H := must_some H
      obtain ⟨g20, H⟩ := H
      refine o_batch 10 [] [.p, .x, .p, .p, .p, .p] [(15, .int .i64 a1), (16, .int .u16 (sShr .u16 (idx ([idx y17 (0 : Int), idx y17 (1 : Int), idx y17 (2 : Int), idx y17 (3 : Int), idx y17 (4 : Int), idx y17 (5 : Int), idx y17 (6 : Int), idx y17 (7 : Int), idx y17 (8 : Int)] : List Int) a0) a1)), (17, .int .u16 (bAnd .u16 (sShr .u16 (idx ([idx y17 (0 : Int), idx y17 (1 : Int), idx y17 (2 : Int), idx y17 (3 : Int), idx y17 (4 : Int), idx y17 (5 : Int), idx y17 (6 : Int), idx y17 (7 : Int), idx y17 (8 : Int)] : List Int) a0) a1) 1)), (18, .bool (bAnd .u16 (sShr .u16 (idx ([idx y17 (0 : Int), idx y17 (1 : Int), idx y17 (2 : Int), idx y17 (3 : Int), idx y17 (4 : Int), idx y17 (5 : Int), idx y17 (6 : Int), idx y17 (7 : Int), idx y17 (8 : Int)] : List Int) a0) a1) 1 == 1)), (19, .bool (bAnd .u16 (sShr .u16 (idx ([idx y17 (0 : Int), idx y17 (1 : Int), idx y17 (2 : Int), idx y17 (3 : Int), idx y17 (4 : Int), idx y17 (5 : Int), idx y17 (6 : Int), idx y17 (7 : Int), idx y17 (8 : Int)] : List Int) a0) a1) 1 == 1)), (4, .bool (bAnd .u16 (sShr .u16 (idx ([idx y17 (0 : Int), idx y17 (1 : Int), idx y17 (2 : Int), idx y17 (3 : Int), idx y17 (4 : Int), idx y17 (5 : Int), idx y17 (6 : Int), idx y17 (7 : Int), idx y17 (8 : Int)] : List Int) a0) a1) 1 == 1))] [(a1, far)] trivial ⟨g20, trivial⟩ (by kernel_rfl) (by kernel_rfl) (by kernel_rfl) ?_
      refine r_out (by kernel_rfl) ?_
      replace H := Option.some.inj H
      subst H
      exact go_return (.bool (bAnd .u16 (sShr .u16 (idx ([idx y17 (0 : Int), idx y17 (1 : Int), idx y17 (2 : Int), idx y17 (3 : Int), idx y17 (4 : Int), idx y17 (5 : Int), idx y17 (6 : Int), idx y17 (7 : Int), idx y17 (8 : Int)] : List Int) a0) a1) 1 == 1)) Try.func12 (by kernel_rfl) ⟨rfl, hI⟩
    · refine o_batch 5 [] [.p, .c false, .p, .p, .p, .p, .p, .p, .p, .p, .p] [(10, .bool y14), (11, .bool false), (12, undef), (13, undef), (14, undef), (15, undef), (16, undef), (17, undef), (18, undef), (19, .bool false), (4, .bool false)] [((bif y14 == false then 0 else -1), 1)] trivial ⟨(bndEq hc16), trivial⟩ (by kernel_rfl) (by kernel_rfl) (by kernel_rfl) ?_
      refine r_out (by kernel_rfl) ?_
      replace H := Option.some.inj H
      subst H
      exact go_return (.bool false) Try.func12 (by kernel_rfl) ⟨rfl, hI⟩
  · refine o_batch 2 [] [.c false, .p, .p, .p, .p, .p, .p, .p, .p, .p, .p, .p, .p, .p] [(7, .bool false), (8, undef), (9, undef), (10, .bool false), (11, .bool false), (12, undef), (13, undef), (14, undef), (15, undef), (16, undef), (17, undef), (18, undef), (19, .bool false), (4, .bool false)] [((bif y11 == false then 0 else -1), 1)] trivial ⟨(bndEq hc13), trivial⟩ (by kernel_rfl) (by kernel_rfl) (by kernel_rfl) ?_
    refine r_out (by kernel_rfl) ?_
    replace H := Option.some.inj H
    subst H
    exact go_return (.bool false) Try.func12 (by kernel_rfl) ⟨rfl, hI⟩

/-! ### assizelaw13.alive -/
theorem enter7 (a : Array Value) : Sem.pureRun Try.prog (callFunc 7 a) = some (.enter 7 a) := by kernel_rfl
theorem assizelaw13zalive_calls  (M : Mem) (w : World) (hI : Inv M w []) (r : Bool) (H : assizelaw13zalive = some r) :
    Calls Try.prog 7 #[] w fun e w' => e = .returned (.bool r) ∧ Inv M w' [] := by
  refine calls_go (updL (fun _ => undef) []) Try.func7 rfl (by kernel_rfl) ?_
  intro cs
  unfold assizelaw13zalive at H
  refine go_seq ?_
  refine r_in ?_
  refine o_batch 0 [] [.p] [(0, .bool false)] [] trivial trivial (by kernel_rfl) (by kernel_rfl) (by kernel_rfl) ?_
  refine r_out (by kernel_rfl) ?_
  refine go_seq ?_
  refine r_in ?_
  replace H := bind_some H
  obtain ⟨y3, hy4, H⟩ := H
  refine o_eff 0 _ rfl (by kernel_rfl) ?_
  refine e_callf _ _ _ 8 #[] #[] #[.int .i64 4] #[.int .i64 4] rfl (by kernel_rfl) (by kernel_rfl) (by kernel_rfl) (enter8 _) (level_Name_calls 4 (memOf _) _ (Inv.start _) _ hy4) ?_
  rintro _ _ ⟨rfl, hI'⟩
  replace hI := hI.call0 hI'
  clear hI'
  refine ⟨_, rfl, ?_⟩
  refine o_batch 1 [] [.p, .p, .p, .p, .p] [(5, .tuple #[.string y3.1, .int .i64 y3.2]), (7, .string y3.1), (8, .int .i64 y3.2), (1, .string y3.1), (2, .int .i64 y3.2)] [] trivial trivial (by kernel_rfl) (by kernel_rfl) (by kernel_rfl) ?_
  refine r_out (by kernel_rfl) ?_
  refine go_seq ?_
  refine r_in ?_
  replace H := bind_some H
  obtain ⟨y7, hy8, H⟩ := H
  refine o_eff 0 _ rfl (by kernel_rfl) ?_
  refine e_callf _ _ _ 10 #[] #[] #[.string (⟨#[115, 116, 114, 105, 99, 116]⟩ : ByteArray)] #[.string (⟨#[115, 116, 114, 105, 99, 116]⟩ : ByteArray)] rfl (by kernel_rfl) (by kernel_rfl) (by kernel_rfl) (enter10 _) (level_Parse_calls (⟨#[115, 116, 114, 105, 99, 116]⟩ : ByteArray) (memOf _) _ (Inv.start _) _ hy8) ?_
  rintro _ _ ⟨rfl, hI'⟩
  replace hI := hI.call0 hI'
  clear hI'
  refine ⟨_, rfl, ?_⟩
  refine o_batch 1 [] [.p, .p, .p, .p, .p] [(9, .tuple #[.int .i64 y7.1, .int .i64 y7.2]), (11, .int .i64 y7.1), (12, .int .i64 y7.2), (3, .int .i64 y7.1), (4, .int .i64 y7.2)] [] trivial trivial (by kernel_rfl) (by kernel_rfl) (by kernel_rfl) ?_
  refine r_out (by kernel_rfl) ?_
  refine go_seq ?_
  refine r_in ?_
  replace H := cond_some H
  rcases H with ⟨hc23, H⟩ | ⟨hc23, H⟩
  · replace H := cond_some H
    rcases H with ⟨hc24, H⟩ | ⟨hc24, H⟩
    · replace H := cond_some H
      rcases H with ⟨hc25, H⟩ | ⟨hc25, H⟩
      · replace H := cond_some H
        rcases H with ⟨hc26, H⟩ | ⟨hc26, H⟩
        · refine o_batch 0 [] [.p, .p, .c true, .p, .p, .p, .c true, .p, .p, .p, .c true, .p, .p, .p, .c true] [(13, .int .i64 y3.2), (14, .bool (y3.2 == 0)), (15, .bool true), (16, .string y3.1), (17, .bool (sEq y3.1 (⟨#[99, 97, 117, 115, 97, 108]⟩ : ByteArray))), (18, .bool (sEq y3.1 (⟨#[99, 97, 117, 115, 97, 108]⟩ : ByteArray))), (19, .bool true), (20, .int .i64 y7.2), (21, .bool (y7.2 == 0)), (22, .bool (y7.2 == 0)), (23, .bool true), (24, .int .i64 y7.1), (25, .bool (y7.1 == 8)), (26, .bool (y7.1 == 8)), (27, .bool true)] [((bif (y3.2 == 0) == true then 0 else -1), 1), ((bif (sEq y3.1 (⟨#[99, 97, 117, 115, 97, 108]⟩ : ByteArray)) == true then 0 else -1), 1), ((bif (y7.2 == 0) == true then 0 else -1), 1), ((bif (y7.1 == 8) == true then 0 else -1), 1)] trivial ⟨(bndEq hc23), (bndEq hc24), (bndEq hc25), (bndEq hc26), trivial⟩ (by kernel_rfl) (by kernel_rfl) (by kernel_rfl) ?_
          replace H := bind_some H
          obtain ⟨y27, hy28, H⟩ := H
          refine o_eff 15 _ rfl (by kernel_rfl) ?_
          refine e_callf _ _ _ 12 #[] #[] #[.int .i64 2, .int .i64 6] #[.int .i64 2, .int .i64 6] rfl (by kernel_rfl) (by kernel_rfl) (by kernel_rfl) (enter12 _) (level_Below_calls 2 6 (memOf _) _ (Inv.start _) _ hy28) ?_
          rintro _ _ ⟨rfl, hI'⟩
          replace hI := hI.call0 hI'
          clear hI'
          refine ⟨_, rfl, ?_⟩
          replace H := cond_some H
          rcases H with ⟨hc29, H⟩ | ⟨hc29, H⟩
          · refine o_batch 16 [] [.p, .c true] [(29, .bool y27), (30, .bool true)] [((bif y27 == true then 0 else -1), 1)] trivial ⟨(bndEq hc29), trivial⟩ (by kernel_rfl) (by kernel_rfl) (by kernel_rfl) ?_
            replace H := bind_some H
            obtain ⟨y30, hy31, H⟩ := H
            refine o_eff 18 _ rfl (by kernel_rfl) ?_
            refine e_callf _ _ _ 12 #[] #[] #[.int .i64 2, .int .i64 5] #[.int .i64 2, .int .i64 5] rfl (by kernel_rfl) (by kernel_rfl) (by kernel_rfl) (enter12 _) (level_Below_calls 2 5 (memOf _) _ (Inv.start _) _ hy31) ?_
            rintro _ _ ⟨rfl, hI'⟩
            replace hI := hI.call0 hI'
            clear hI'
            refine ⟨_, rfl, ?_⟩
            replace H := cond_some H
            rcases H with ⟨hc32, H⟩ | ⟨hc32, H⟩
            · refine o_batch 19 [] [.p, .p, .c true] [(32, .bool (!y30)), (33, .bool (!y30)), (34, .bool true)] [((bif (!y30) == true then 0 else -1), 1)] trivial ⟨(bndEq hc32), trivial⟩ (by kernel_rfl) (by kernel_rfl) (by kernel_rfl) ?_
              replace H := bind_some H
              obtain ⟨y33, hy34, H⟩ := H
              have hyc : y33 = level_Pairs_lit := (Option.some.inj hy34).symm
              subst hyc
              refine o_eff 22 _ rfl (by kernel_rfl) ?_
              refine e_callf _ _ _ 14 #[] #[] #[] #[] rfl (by kernel_rfl) (by kernel_rfl) (by kernel_rfl) (enter14 _) (level_Pairs_calls (memOf _) _ (Inv.start _) _ hy34) ?_
              rintro _ _ ⟨A35, c36, rfl, hI'⟩
              replace hI := hI.call0 hI'
              clear hI'
              refine ⟨_, rfl, ?_⟩
              refine o_batch 23 [] [.p, .p, .p, .p] [(36, .int .i64 (level_Pairs_lit.length : Int)), (37, .bool ((level_Pairs_lit.length : Int) == 8)), (38, .bool ((level_Pairs_lit.length : Int) == 8)), (0, .bool ((level_Pairs_lit.length : Int) == 8))] [] trivial trivial (by kernel_rfl) (by kernel_rfl) (by kernel_rfl) ?_
              refine r_out (by kernel_rfl) ?_
              replace H := Option.some.inj H
              subst H
              exact go_return (.bool ((level_Pairs_lit.length : Int) == 8)) Try.func7 (by kernel_rfl) ⟨rfl, hI.pick [] (by decide) rfl⟩
            · refine o_batch 19 [] [.p, .p, .c false, .p, .p, .p, .p, .p] [(32, .bool (!y30)), (33, .bool (!y30)), (34, .bool false), (35, undef), (36, undef), (37, undef), (38, .bool false), (0, .bool false)] [((bif (!y30) == false then 0 else -1), 1)] trivial ⟨(bndEq hc32), trivial⟩ (by kernel_rfl) (by kernel_rfl) (by kernel_rfl) ?_
              refine r_out (by kernel_rfl) ?_
              replace H := Option.some.inj H
              subst H
              exact go_return (.bool false) Try.func7 (by kernel_rfl) ⟨rfl, hI⟩
          · refine o_batch 16 [] [.p, .c false, .p, .p, .p, .p, .p, .p, .p, .p, .p] [(29, .bool y27), (30, .bool false), (31, undef), (32, undef), (33, .bool false), (34, .bool false), (35, undef), (36, undef), (37, undef), (38, .bool false), (0, .bool false)] [((bif y27 == false then 0 else -1), 1)] trivial ⟨(bndEq hc29), trivial⟩ (by kernel_rfl) (by kernel_rfl) (by kernel_rfl) ?_
            refine r_out (by kernel_rfl) ?_
            replace H := Option.some.inj H
            subst H
            exact go_return (.bool false) Try.func7 (by kernel_rfl) ⟨rfl, hI⟩
        · refine o_batch 0 [] [.p, .p, .c true, .p, .p, .p, .c true, .p, .p, .p, .c true, .p, .p, .p, .c false, .p, .p, .p, .p, .p, .p, .p, .p, .p, .p, .p, .p] [(13, .int .i64 y3.2), (14, .bool (y3.2 == 0)), (15, .bool true), (16, .string y3.1), (17, .bool (sEq y3.1 (⟨#[99, 97, 117, 115, 97, 108]⟩ : ByteArray))), (18, .bool (sEq y3.1 (⟨#[99, 97, 117, 115, 97, 108]⟩ : ByteArray))), (19, .bool true), (20, .int .i64 y7.2), (21, .bool (y7.2 == 0)), (22, .bool (y7.2 == 0)), (23, .bool true), (24, .int .i64 y7.1), (25, .bool (y7.1 == 8)), (26, .bool (y7.1 == 8)), (27, .bool false), (28, undef), (29, .bool false), (30, .bool false), (31, undef), (32, undef), (33, .bool false), (34, .bool false), (35, undef), (36, undef), (37, undef), (38, .bool false), (0, .bool false)] [((bif (y3.2 == 0) == true then 0 else -1), 1), ((bif (sEq y3.1 (⟨#[99, 97, 117, 115, 97, 108]⟩ : ByteArray)) == true then 0 else -1), 1), ((bif (y7.2 == 0) == true then 0 else -1), 1), ((bif (y7.1 == 8) == false then 0 else -1), 1)] trivial ⟨(bndEq hc23), (bndEq hc24), (bndEq hc25), (bndEq hc26), trivial⟩ (by kernel_rfl) (by kernel_rfl) (by kernel_rfl) ?_
          refine r_out (by kernel_rfl) ?_
          replace H := Option.some.inj H
          subst H
          exact go_return (.bool false) Try.func7 (by kernel_rfl) ⟨rfl, hI⟩
      · refine o_batch 0 [] [.p, .p, .c true, .p, .p, .p, .c true, .p, .p, .p, .c false, .p, .p, .p, .p, .p, .p, .p, .p, .p, .p, .p, .p, .p, .p, .p, .p] [(13, .int .i64 y3.2), (14, .bool (y3.2 == 0)), (15, .bool true), (16, .string y3.1), (17, .bool (sEq y3.1 (⟨#[99, 97, 117, 115, 97, 108]⟩ : ByteArray))), (18, .bool (sEq y3.1 (⟨#[99, 97, 117, 115, 97, 108]⟩ : ByteArray))), (19, .bool true), (20, .int .i64 y7.2), (21, .bool (y7.2 == 0)), (22, .bool (y7.2 == 0)), (23, .bool false), (24, undef), (25, undef), (26, .bool false), (27, .bool false), (28, undef), (29, .bool false), (30, .bool false), (31, undef), (32, undef), (33, .bool false), (34, .bool false), (35, undef), (36, undef), (37, undef), (38, .bool false), (0, .bool false)] [((bif (y3.2 == 0) == true then 0 else -1), 1), ((bif (sEq y3.1 (⟨#[99, 97, 117, 115, 97, 108]⟩ : ByteArray)) == true then 0 else -1), 1), ((bif (y7.2 == 0) == false then 0 else -1), 1)] trivial ⟨(bndEq hc23), (bndEq hc24), (bndEq hc25), trivial⟩ (by kernel_rfl) (by kernel_rfl) (by kernel_rfl) ?_
        refine r_out (by kernel_rfl) ?_
        replace H := Option.some.inj H
        subst H
        exact go_return (.bool false) Try.func7 (by kernel_rfl) ⟨rfl, hI⟩
    · refine o_batch 0 [] [.p, .p, .c true, .p, .p, .p, .c false, .p, .p, .p, .p, .p, .p, .p, .p, .p, .p, .p, .p, .p, .p, .p, .p, .p, .p, .p, .p] [(13, .int .i64 y3.2), (14, .bool (y3.2 == 0)), (15, .bool true), (16, .string y3.1), (17, .bool (sEq y3.1 (⟨#[99, 97, 117, 115, 97, 108]⟩ : ByteArray))), (18, .bool (sEq y3.1 (⟨#[99, 97, 117, 115, 97, 108]⟩ : ByteArray))), (19, .bool false), (20, undef), (21, undef), (22, .bool false), (23, .bool false), (24, undef), (25, undef), (26, .bool false), (27, .bool false), (28, undef), (29, .bool false), (30, .bool false), (31, undef), (32, undef), (33, .bool false), (34, .bool false), (35, undef), (36, undef), (37, undef), (38, .bool false), (0, .bool false)] [((bif (y3.2 == 0) == true then 0 else -1), 1), ((bif (sEq y3.1 (⟨#[99, 97, 117, 115, 97, 108]⟩ : ByteArray)) == false then 0 else -1), 1)] trivial ⟨(bndEq hc23), (bndEq hc24), trivial⟩ (by kernel_rfl) (by kernel_rfl) (by kernel_rfl) ?_
      refine r_out (by kernel_rfl) ?_
      replace H := Option.some.inj H
      subst H
      exact go_return (.bool false) Try.func7 (by kernel_rfl) ⟨rfl, hI⟩
  · refine o_batch 0 [] [.p, .p, .c false, .p, .p, .p, .p, .p, .p, .p, .p, .p, .p, .p, .p, .p, .p, .p, .p, .p, .p, .p, .p, .p, .p, .p, .p] [(13, .int .i64 y3.2), (14, .bool (y3.2 == 0)), (15, .bool false), (16, undef), (17, undef), (18, .bool false), (19, .bool false), (20, undef), (21, undef), (22, .bool false), (23, .bool false), (24, undef), (25, undef), (26, .bool false), (27, .bool false), (28, undef), (29, .bool false), (30, .bool false), (31, undef), (32, undef), (33, .bool false), (34, .bool false), (35, undef), (36, undef), (37, undef), (38, .bool false), (0, .bool false)] [((bif (y3.2 == 0) == false then 0 else -1), 1)] trivial ⟨(bndEq hc23), trivial⟩ (by kernel_rfl) (by kernel_rfl) (by kernel_rfl) ?_
    refine r_out (by kernel_rfl) ?_
    replace H := Option.some.inj H
    subst H
    exact go_return (.bool false) Try.func7 (by kernel_rfl) ⟨rfl, hI⟩

/-! ### assizeref13.name -/
theorem enter22 (a : Array Value) : Sem.pureRun Try.prog (callFunc 22 a) = some (.enter 22 a) := by kernel_rfl
theorem assizeref13zname_calls (a0 : Int) (M : Mem) (w : World) (hI : Inv M w []) (r : ByteArray) (H : assizeref13zname a0 = some r) :
    Calls Try.prog 22 #[.int .i64 a0] w fun e w' => e = .returned (.string r) ∧ Inv M w' [] := by
  refine calls_go (updL (fun _ => undef) [(0, .int .i64 a0)]) Try.func22 rfl (by kernel_rfl) ?_
  intro cs
  unfold assizeref13zname at H
  refine go_seq ?_
  refine r_in ?_
  refine o_batch 0 [] [.p] [(2, .string (⟨#[]⟩ : ByteArray))] [] trivial trivial (by kernel_rfl) (by kernel_rfl) (by kernel_rfl) ?_
  refine r_out (by kernel_rfl) ?_
  refine go_seq ?_
  refine go_seq ?_
  refine r_in ?_
  refine o_batch 0 [] [.p] [(3, .int .i64 a0)] [] trivial trivial (by kernel_rfl) (by kernel_rfl) (by kernel_rfl) ?_
  refine r_out (by kernel_rfl) ?_
  refine go_block ?_
  refine go_seq ?_
  refine r_in ?_
  refine o_batch 0 [] [.p, .p] [(5, .bool (a0 == 1)), (4, .bool (a0 == 1))] [] trivial trivial (by kernel_rfl) (by kernel_rfl) (by kernel_rfl) ?_
  refine r_out (by kernel_rfl) ?_
  replace H := cond_some H
  rcases H with ⟨hc17, H⟩ | ⟨hc17, H⟩
  · refine go_then' (t := (a0 == 1)) (by kernel_rfl) hc17 ?_
    refine go_seq ?_
    refine r_in ?_
    refine o_batch 0 [] [.p] [(2, .string (⟨#[114, 101, 97, 100, 45, 99, 111, 109, 109, 105, 116, 116, 101, 100]⟩ : ByteArray))] [] trivial trivial (by kernel_rfl) (by kernel_rfl) (by kernel_rfl) ?_
    refine r_out (by kernel_rfl) ?_
    replace H := Option.some.inj H
    subst H
    exact go_return (.string (⟨#[114, 101, 97, 100, 45, 99, 111, 109, 109, 105, 116, 116, 101, 100]⟩ : ByteArray)) Try.func22 (by kernel_rfl) ⟨rfl, hI⟩
  · refine go_else' (t := (a0 == 1)) (by kernel_rfl) hc17 ?_
    refine go_seq ?_
    refine r_in ?_
    refine o_batch 0 [] [.p, .p] [(7, .bool (a0 == 2)), (6, .bool (a0 == 2))] [] trivial trivial (by kernel_rfl) (by kernel_rfl) (by kernel_rfl) ?_
    refine r_out (by kernel_rfl) ?_
    replace H := cond_some H
    rcases H with ⟨hc18, H⟩ | ⟨hc18, H⟩
    · refine go_then' (t := (a0 == 2)) (by kernel_rfl) hc18 ?_
      refine go_seq ?_
      refine r_in ?_
      refine o_batch 0 [] [.p] [(2, .string (⟨#[99, 117, 114, 115, 111, 114, 45, 115, 116, 97, 98, 108, 101]⟩ : ByteArray))] [] trivial trivial (by kernel_rfl) (by kernel_rfl) (by kernel_rfl) ?_
      refine r_out (by kernel_rfl) ?_
      replace H := Option.some.inj H
      subst H
      exact go_return (.string (⟨#[99, 117, 114, 115, 111, 114, 45, 115, 116, 97, 98, 108, 101]⟩ : ByteArray)) Try.func22 (by kernel_rfl) ⟨rfl, hI⟩
    · refine go_else' (t := (a0 == 2)) (by kernel_rfl) hc18 ?_
      refine go_seq ?_
      refine r_in ?_
      refine o_batch 0 [] [.p, .p] [(9, .bool (a0 == 3)), (8, .bool (a0 == 3))] [] trivial trivial (by kernel_rfl) (by kernel_rfl) (by kernel_rfl) ?_
      refine r_out (by kernel_rfl) ?_
      replace H := cond_some H
      rcases H with ⟨hc19, H⟩ | ⟨hc19, H⟩
      · refine go_then' (t := (a0 == 3)) (by kernel_rfl) hc19 ?_
        refine go_seq ?_
        refine r_in ?_
        refine o_batch 0 [] [.p] [(2, .string (⟨#[114, 101, 97, 100, 45, 97, 116, 111, 109, 105, 99]⟩ : ByteArray))] [] trivial trivial (by kernel_rfl) (by kernel_rfl) (by kernel_rfl) ?_
        refine r_out (by kernel_rfl) ?_
        replace H := Option.some.inj H
        subst H
        exact go_return (.string (⟨#[114, 101, 97, 100, 45, 97, 116, 111, 109, 105, 99]⟩ : ByteArray)) Try.func22 (by kernel_rfl) ⟨rfl, hI⟩
      · refine go_else' (t := (a0 == 3)) (by kernel_rfl) hc19 ?_
        refine go_seq ?_
        refine r_in ?_
        refine o_batch 0 [] [.p, .p] [(11, .bool (a0 == 4)), (10, .bool (a0 == 4))] [] trivial trivial (by kernel_rfl) (by kernel_rfl) (by kernel_rfl) ?_
        refine r_out (by kernel_rfl) ?_
        replace H := cond_some H
        rcases H with ⟨hc20, H⟩ | ⟨hc20, H⟩
        · refine go_then' (t := (a0 == 4)) (by kernel_rfl) hc20 ?_
          refine go_seq ?_
          refine r_in ?_
          refine o_batch 0 [] [.p] [(2, .string (⟨#[99, 97, 117, 115, 97, 108]⟩ : ByteArray))] [] trivial trivial (by kernel_rfl) (by kernel_rfl) (by kernel_rfl) ?_
          refine r_out (by kernel_rfl) ?_
          replace H := Option.some.inj H
          subst H
          exact go_return (.string (⟨#[99, 97, 117, 115, 97, 108]⟩ : ByteArray)) Try.func22 (by kernel_rfl) ⟨rfl, hI⟩
        · refine go_else' (t := (a0 == 4)) (by kernel_rfl) hc20 ?_
          refine go_seq ?_
          refine r_in ?_
          refine o_batch 0 [] [.p, .p] [(13, .bool (a0 == 5)), (12, .bool (a0 == 5))] [] trivial trivial (by kernel_rfl) (by kernel_rfl) (by kernel_rfl) ?_
          refine r_out (by kernel_rfl) ?_
          replace H := cond_some H
          rcases H with ⟨hc21, H⟩ | ⟨hc21, H⟩
          · refine go_then' (t := (a0 == 5)) (by kernel_rfl) hc21 ?_
            refine go_seq ?_
            refine r_in ?_
            refine o_batch 0 [] [.p] [(2, .string (⟨#[112, 114, 101, 102, 105, 120]⟩ : ByteArray))] [] trivial trivial (by kernel_rfl) (by kernel_rfl) (by kernel_rfl) ?_
            refine r_out (by kernel_rfl) ?_
            replace H := Option.some.inj H
            subst H
            exact go_return (.string (⟨#[112, 114, 101, 102, 105, 120]⟩ : ByteArray)) Try.func22 (by kernel_rfl) ⟨rfl, hI⟩
          · refine go_else' (t := (a0 == 5)) (by kernel_rfl) hc21 ?_
            refine go_seq ?_
            refine r_in ?_
            refine o_batch 0 [] [.p, .p] [(15, .bool (a0 == 6)), (14, .bool (a0 == 6))] [] trivial trivial (by kernel_rfl) (by kernel_rfl) (by kernel_rfl) ?_
            refine r_out (by kernel_rfl) ?_
            replace H := cond_some H
            rcases H with ⟨hc22, H⟩ | ⟨hc22, H⟩
            · refine go_then' (t := (a0 == 6)) (by kernel_rfl) hc22 ?_
              refine go_seq ?_
              refine r_in ?_
              refine o_batch 0 [] [.p] [(2, .string (⟨#[115, 110, 97, 112, 115, 104, 111, 116]⟩ : ByteArray))] [] trivial trivial (by kernel_rfl) (by kernel_rfl) (by kernel_rfl) ?_
              refine r_out (by kernel_rfl) ?_
              replace H := Option.some.inj H
              subst H
              exact go_return (.string (⟨#[115, 110, 97, 112, 115, 104, 111, 116]⟩ : ByteArray)) Try.func22 (by kernel_rfl) ⟨rfl, hI⟩
            · refine go_else' (t := (a0 == 6)) (by kernel_rfl) hc22 ?_
              refine go_seq ?_
              refine r_in ?_
              refine o_batch 0 [] [.p, .p] [(17, .bool (a0 == 7)), (16, .bool (a0 == 7))] [] trivial trivial (by kernel_rfl) (by kernel_rfl) (by kernel_rfl) ?_
              refine r_out (by kernel_rfl) ?_
              replace H := cond_some H
              rcases H with ⟨hc23, H⟩ | ⟨hc23, H⟩
              · refine go_then' (t := (a0 == 7)) (by kernel_rfl) hc23 ?_
                refine go_seq ?_
                refine r_in ?_
                refine o_batch 0 [] [.p] [(2, .string (⟨#[115, 101, 114, 105, 97, 108, 105, 122, 97, 98, 108, 101]⟩ : ByteArray))] [] trivial trivial (by kernel_rfl) (by kernel_rfl) (by kernel_rfl) ?_
                refine r_out (by kernel_rfl) ?_
                replace H := Option.some.inj H
                subst H
                exact go_return (.string (⟨#[115, 101, 114, 105, 97, 108, 105, 122, 97, 98, 108, 101]⟩ : ByteArray)) Try.func22 (by kernel_rfl) ⟨rfl, hI⟩
              · refine go_else' (t := (a0 == 7)) (by kernel_rfl) hc23 ?_
                refine go_seq ?_
                refine r_in ?_
                refine o_batch 0 [] [.p, .p] [(19, .bool (a0 == 8)), (18, .bool (a0 == 8))] [] trivial trivial (by kernel_rfl) (by kernel_rfl) (by kernel_rfl) ?_
                refine r_out (by kernel_rfl) ?_
                replace H := cond_some H
                rcases H with ⟨hc24, H⟩ | ⟨hc24, H⟩
                · refine go_then' (t := (a0 == 8)) (by kernel_rfl) hc24 ?_
                  refine go_seq ?_
                  refine r_in ?_
                  refine o_batch 0 [] [.p] [(2, .string (⟨#[115, 116, 114, 105, 99, 116]⟩ : ByteArray))] [] trivial trivial (by kernel_rfl) (by kernel_rfl) (by kernel_rfl) ?_
                  refine r_out (by kernel_rfl) ?_
                  replace H := Option.some.inj H
                  subst H
                  exact go_return (.string (⟨#[115, 116, 114, 105, 99, 116]⟩ : ByteArray)) Try.func22 (by kernel_rfl) ⟨rfl, hI⟩
                · refine go_else' (t := (a0 == 8)) (by kernel_rfl) hc24 ?_
                  refine go_skip ?_
                  refine go_inBlock ?_
                  refine go_seq ?_
                  refine r_in ?_
                  refine o_batch 0 [] [.p] [(2, .string (⟨#[]⟩ : ByteArray))] [] trivial trivial (by kernel_rfl) (by kernel_rfl) (by kernel_rfl) ?_
                  refine r_out (by kernel_rfl) ?_
                  replace H := Option.some.inj H
                  subst H
                  exact go_return (.string (⟨#[]⟩ : ByteArray)) Try.func22 (by kernel_rfl) ⟨rfl, hI⟩

/-! ### assizeref13.Name -/
theorem enter9 (a : Array Value) : Sem.pureRun Try.prog (callFunc 9 a) = some (.enter 9 a) := by kernel_rfl
theorem assizeref13zName_calls (a0 : Int) (M : Mem) (w : World) (hI : Inv M w []) (r : ByteArray × Int) (H : assizeref13zName a0 = some r) :
    Calls Try.prog 9 #[.int .i64 a0] w fun e w' => e = .returned (.tuple #[.string r.1, .int .i64 r.2]) ∧ Inv M w' [] := by
  refine calls_go (updL (fun _ => undef) [(0, .int .i64 a0)]) Try.func9 rfl (by kernel_rfl) ?_
  intro cs
  unfold assizeref13zName at H
  refine go_seq ?_
  refine r_in ?_
  refine o_batch 0 [] [.p, .p] [(2, .string (⟨#[]⟩ : ByteArray)), (3, .int .i64 0)] [] trivial trivial (by kernel_rfl) (by kernel_rfl) (by kernel_rfl) ?_
  refine r_out (by kernel_rfl) ?_
  refine go_seq ?_
  refine r_in ?_
  refine o_batch 0 [] [.p] [(5, .int .i64 a0)] [] trivial trivial (by kernel_rfl) (by kernel_rfl) (by kernel_rfl) ?_
  replace H := bind_some H
  obtain ⟨y3, hy4, H⟩ := H
  refine o_eff 1 _ rfl (by kernel_rfl) ?_
  refine e_callf _ _ _ 22 #[] #[] #[.int .i64 a0] #[.int .i64 a0] rfl (by kernel_rfl) (by kernel_rfl) (by kernel_rfl) (enter22 _) (assizeref13zname_calls a0 (memOf _) _ (Inv.start _) _ hy4) ?_
  rintro _ _ ⟨rfl, hI'⟩
  replace hI := hI.call0 hI'
  clear hI'
  refine ⟨_, rfl, ?_⟩
  refine o_batch 2 [] [.p] [(4, .string y3)] [] trivial trivial (by kernel_rfl) (by kernel_rfl) (by kernel_rfl) ?_
  refine r_out (by kernel_rfl) ?_
  refine go_seq ?_
  refine go_seq ?_
  refine r_in ?_
  refine o_batch 0 [] [.p, .p] [(7, .string y3), (8, .bool (sEq y3 (⟨#[]⟩ : ByteArray)))] [] trivial trivial (by kernel_rfl) (by kernel_rfl) (by kernel_rfl) ?_
  refine r_out (by kernel_rfl) ?_
  replace H := cond_some H
  rcases H with ⟨hc6, H⟩ | ⟨hc6, H⟩
  · refine go_then' (t := sEq y3 (⟨#[]⟩ : ByteArray)) (by kernel_rfl) hc6 ?_
    refine go_seq ?_
    refine r_in ?_
    refine o_batch 0 [] [.p, .p] [(2, .string (⟨#[]⟩ : ByteArray)), (3, .int .i64 1)] [] trivial trivial (by kernel_rfl) (by kernel_rfl) (by kernel_rfl) ?_
    refine r_out (by kernel_rfl) ?_
    replace H := Option.some.inj H
    subst H
    exact go_return (.tuple #[.string (⟨#[]⟩ : ByteArray), .int .i64 1]) Try.func9 (by kernel_rfl) ⟨rfl, hI⟩
  · refine go_else' (t := sEq y3 (⟨#[]⟩ : ByteArray)) (by kernel_rfl) hc6 ?_
    refine go_skip ?_
    refine go_seq ?_
    refine r_in ?_
    refine o_batch 0 [] [.p, .p, .p] [(9, .string y3), (2, .string y3), (3, .int .i64 0)] [] trivial trivial (by kernel_rfl) (by kernel_rfl) (by kernel_rfl) ?_
    refine r_out (by kernel_rfl) ?_
    replace H := Option.some.inj H
    subst H
    exact go_return (.tuple #[.string y3, .int .i64 0]) Try.func9 (by kernel_rfl) ⟨rfl, hI⟩

/-! ### assizeref13.Parse -/
theorem enter11 (a : Array Value) : Sem.pureRun Try.prog (callFunc 11 a) = some (.enter 11 a) := by kernel_rfl
theorem assizeref13zParse_calls (a0 : ByteArray) (M : Mem) (w : World) (hI : Inv M w []) (r : Int × Int) (H : assizeref13zParse a0 = some r) :
    Calls Try.prog 11 #[.string a0] w fun e w' => e = .returned (.tuple #[.int .i64 r.1, .int .i64 r.2]) ∧ Inv M w' [] := by
  refine calls_go (updL (fun _ => undef) [(0, .string a0)]) Try.func11 rfl (by kernel_rfl) ?_
  intro cs
  unfold assizeref13zParse at H
  refine go_seq ?_
  refine r_in ?_
  refine o_batch 0 [] [.p, .p] [(2, .int .i64 0), (3, .int .i64 0)] [] trivial trivial (by kernel_rfl) (by kernel_rfl) (by kernel_rfl) ?_
  refine r_out (by kernel_rfl) ?_
  refine go_seq ?_
  refine go_seq ?_
  refine r_in ?_
  refine o_batch 0 [] [.p] [(4, .int .i64 1)] [] trivial trivial (by kernel_rfl) (by kernel_rfl) (by kernel_rfl) ?_
  refine r_out (by kernel_rfl) ?_
  refine go_block ?_
  refine go_iter (assizeref13zParse.s1 a0) (fun x50 f w => ∃ (j : Nat → Value), f = updL j [(0, .string a0), (4, .int .i64 x50)] ∧ Inv M w []) H ⟨_, at_slots _ (by kernel_rfl), hI⟩ ?_
  clear H hI
  rintro x50 _ _ o1 H ⟨_, rfl, hI⟩ hin1 hout1
  refine go_seq ?_
  refine go_seq ?_
  refine r_in ?_
  refine o_batch 0 [] [.p, .p] [(5, .int .i64 x50), (6, .bool (decide (x50 ≤ 8)))] [] trivial trivial (by kernel_rfl) (by kernel_rfl) (by kernel_rfl) ?_
  refine r_out (by kernel_rfl) ?_
  replace H := cond_some H
  rcases H with ⟨hc52, H⟩ | ⟨hc52, H⟩
  · refine go_then' (t := decide (x50 ≤ 8)) (by kernel_rfl) hc52 ?_
    refine go_skip ?_
    refine go_seq ?_
    refine go_block ?_
    refine go_seq ?_
    refine r_in ?_
    refine o_batch 0 [] [.p] [(9, .int .i64 x50)] [] trivial trivial (by kernel_rfl) (by kernel_rfl) (by kernel_rfl) ?_
    replace H := bind_some H
    obtain ⟨y61, hy62, H⟩ := H
    refine o_eff 1 _ rfl (by kernel_rfl) ?_
    refine e_callf _ _ _ 22 #[] #[] #[.int .i64 x50] #[.int .i64 x50] rfl (by kernel_rfl) (by kernel_rfl) (by kernel_rfl) (enter22 _) (assizeref13zname_calls x50 (memOf _) _ (Inv.start _) _ hy62) ?_
    rintro _ _ ⟨rfl, hI'⟩
    replace hI := hI.call0 hI'
    clear hI'
    refine ⟨_, rfl, ?_⟩
    refine o_batch 2 [] [.p, .p] [(11, .string a0), (12, .bool (sEq y61 a0))] [] trivial trivial (by kernel_rfl) (by kernel_rfl) (by kernel_rfl) ?_
    refine r_out (by kernel_rfl) ?_
    replace H := cond_some H
    rcases H with ⟨hc63, H⟩ | ⟨hc63, H⟩
    · refine go_then' (t := sEq y61 a0) (by kernel_rfl) hc63 ?_
      refine go_seq ?_
      refine r_in ?_
      refine o_batch 0 [] [.p, .p, .p] [(13, .int .i64 x50), (2, .int .i64 x50), (3, .int .i64 0)] [] trivial trivial (by kernel_rfl) (by kernel_rfl) (by kernel_rfl) ?_
      refine r_out (by kernel_rfl) ?_
      replace H := out_some H
      obtain ⟨_, H, he1⟩ := H
      have he := (hout1 _ he1).symm
      subst he
      replace H := Option.some.inj H
      subst H
      exact go_return (.tuple #[.int .i64 x50, .int .i64 0]) Try.func11 (by kernel_rfl) ⟨rfl, hI⟩
    · refine go_else' (t := sEq y61 a0) (by kernel_rfl) hc63 ?_
      refine go_skip ?_
      refine go_inBlock ?_
      refine r_in ?_
      refine o_batch 0 [] [.p, .p, .p] [(7, .int .i64 x50), (8, .int .i64 (w64 (x50 + 1))), (4, .int .i64 (w64 (x50 + 1)))] [] trivial trivial (by kernel_rfl) (by kernel_rfl) (by kernel_rfl) ?_
      refine r_out (by kernel_rfl) ?_
      exact hin1 _ (Option.some.inj H).symm _ _ ⟨_, at_slots _ (by kernel_rfl), hI⟩
  · refine go_else' (t := decide (x50 ≤ 8)) (by kernel_rfl) hc52 ?_
    refine go_exit rfl ?_
    refine go_seq ?_
    refine r_in ?_
    refine o_batch 0 [] [.p, .p] [(2, .int .i64 0), (3, .int .i64 1)] [] trivial trivial (by kernel_rfl) (by kernel_rfl) (by kernel_rfl) ?_
    refine r_out (by kernel_rfl) ?_
    replace H := out_some H
    obtain ⟨_, H, he1⟩ := H
    have he := (hout1 _ he1).symm
    subst he
    replace H := Option.some.inj H
    subst H
    exact go_return (.tuple #[.int .i64 0, .int .i64 1]) Try.func11 (by kernel_rfl) ⟨rfl, hI⟩

/-! ### assizeref13.Pairs -/
theorem enter15 (a : Array Value) : Sem.pureRun Try.prog (callFunc 15 a) = some (.enter 15 a) := by kernel_rfl
theorem assizeref13zPairs_calls  (M : Mem) (w : World) (hI : Inv M w []) (r : (List (Int × Int))) (H : assizeref13zPairs = some r) :
    Calls Try.prog 15 #[] w fun e w' => ∃ (A4 : Option Addr) (c5 : Nat), e = .returned (.slice A4 r.length c5) ∧ Inv M w' [.row (Ty.flat 2 (fun x : Int × Int => [.int .i64 x.1, .int .i64 x.2]) (fun _ => rfl) (fun _ => oneAll rfl)) 32 A4 r.length c5 r] := by
  refine calls_go (updL (fun _ => undef) []) Try.func15 rfl (by kernel_rfl) ?_
  intro cs
  unfold assizeref13zPairs at H
  refine go_seq ?_
  refine r_in ?_
  refine o_batch 0 [] [.p] [(0, .slice none 0 0)] [] trivial trivial (by kernel_rfl) (by kernel_rfl) (by kernel_rfl) ?_
  refine r_out (by kernel_rfl) ?_
  refine go_seq ?_
  refine r_in ?_
  refine o_batch 0 [] [.p, .p, .p, .p, .p, .p, .p, .p] [(1, .agg #[.int .i64 1, .int .i64 2]), (2, .agg #[.int .i64 2, .int .i64 6]), (3, .agg #[.int .i64 1, .int .i64 3]), (4, .agg #[.int .i64 3, .int .i64 4]), (5, .agg #[.int .i64 4, .int .i64 5]), (6, .agg #[.int .i64 5, .int .i64 6]), (7, .agg #[.int .i64 6, .int .i64 7]), (8, .agg #[.int .i64 7, .int .i64 8])] [] trivial trivial (by kernel_rfl) (by kernel_rfl) (by kernel_rfl) ?_
  refine o_eff 8 _ rfl (by kernel_rfl) ?_
  refine e_parts 30 32 8 _ _ _ #[.int .i64 1, .int .i64 2, .int .i64 2, .int .i64 6, .int .i64 1, .int .i64 3, .int .i64 3, .int .i64 4, .int .i64 4, .int .i64 5, .int .i64 5, .int .i64 6, .int .i64 6, .int .i64 7, .int .i64 7, .int .i64 8] [.int .i64 1, .int .i64 2, .int .i64 2, .int .i64 6, .int .i64 1, .int .i64 3, .int .i64 3, .int .i64 4, .int .i64 4, .int .i64 5, .int .i64 5, .int .i64 6, .int .i64 6, .int .i64 7, .int .i64 7, .int .i64 8] rfl rfl rfl rfl (by kernel_rfl) (by kernel_rfl) (by kernel_rfl) (by kernel_rfl) hI ?_
  clear hI
  intro b2 _ hI
  replace hI := hI.asrow (k := (Ty.flat 2 (fun x : Int × Int => [.int .i64 x.1, .int .i64 x.2]) (fun _ => rfl) (fun _ => oneAll rfl))) (xs := ([((1, 2) : Int × Int), ((2, 6) : Int × Int), ((1, 3) : Int × Int), ((3, 4) : Int × Int), ((4, 5) : Int × Int), ((5, 6) : Int × Int), ((6, 7) : Int × Int), ((7, 8) : Int × Int)] : List (Int × Int))) (cs := [.int .i64 1, .int .i64 2, .int .i64 2, .int .i64 6, .int .i64 1, .int .i64 3, .int .i64 3, .int .i64 4, .int .i64 4, .int .i64 5, .int .i64 5, .int .i64 6, .int .i64 6, .int .i64 7, .int .i64 7, .int .i64 8]) (R := []) (L' := []) 8 0 [] [] (by decide) rfl (mks_cons (mk_flat (k := (Ty.flat 2 (fun x : Int × Int => [.int .i64 x.1, .int .i64 x.2]) (fun _ => rfl) (fun _ => oneAll rfl))) ((1, 2) : Int × Int) [.int .i64 1, .int .i64 2] rfl) (mks_cons (mk_flat (k := (Ty.flat 2 (fun x : Int × Int => [.int .i64 x.1, .int .i64 x.2]) (fun _ => rfl) (fun _ => oneAll rfl))) ((2, 6) : Int × Int) [.int .i64 2, .int .i64 6] rfl) (mks_cons (mk_flat (k := (Ty.flat 2 (fun x : Int × Int => [.int .i64 x.1, .int .i64 x.2]) (fun _ => rfl) (fun _ => oneAll rfl))) ((1, 3) : Int × Int) [.int .i64 1, .int .i64 3] rfl) (mks_cons (mk_flat (k := (Ty.flat 2 (fun x : Int × Int => [.int .i64 x.1, .int .i64 x.2]) (fun _ => rfl) (fun _ => oneAll rfl))) ((3, 4) : Int × Int) [.int .i64 3, .int .i64 4] rfl) (mks_cons (mk_flat (k := (Ty.flat 2 (fun x : Int × Int => [.int .i64 x.1, .int .i64 x.2]) (fun _ => rfl) (fun _ => oneAll rfl))) ((4, 5) : Int × Int) [.int .i64 4, .int .i64 5] rfl) (mks_cons (mk_flat (k := (Ty.flat 2 (fun x : Int × Int => [.int .i64 x.1, .int .i64 x.2]) (fun _ => rfl) (fun _ => oneAll rfl))) ((5, 6) : Int × Int) [.int .i64 5, .int .i64 6] rfl) (mks_cons (mk_flat (k := (Ty.flat 2 (fun x : Int × Int => [.int .i64 x.1, .int .i64 x.2]) (fun _ => rfl) (fun _ => oneAll rfl))) ((6, 7) : Int × Int) [.int .i64 6, .int .i64 7] rfl) (mks_cons (mk_flat (k := (Ty.flat 2 (fun x : Int × Int => [.int .i64 x.1, .int .i64 x.2]) (fun _ => rfl) (fun _ => oneAll rfl))) ((7, 8) : Int × Int) [.int .i64 7, .int .i64 8] rfl) mks_nil)))))))) rfl rfl (by kernel_rfl)
  refine o_batch 9 [] [.p] [(0, .slice (some ⟨b2, 0, none⟩) 8 8)] [] trivial trivial (by kernel_rfl) (by kernel_rfl) (by kernel_rfl) ?_
  refine r_out (by kernel_rfl) ?_
  refine go_is 0 (.slice (some ⟨b2, 0, none⟩) 8 8) (.slice (some ⟨b2, 0, none⟩) (([((1, 2) : Int × Int), ((2, 6) : Int × Int), ((1, 3) : Int × Int), ((3, 4) : Int × Int), ((4, 5) : Int × Int), ((5, 6) : Int × Int), ((6, 7) : Int × Int), ((7, 8) : Int × Int)] : List (Int × Int)).length) 8) (by kernel_rfl) (by first | rfl | simp only [List.length_set, List.length_replicate, List.length_nil]) ?_
  replace hI := hI.renum 0 rfl
  replace H := Option.some.inj H
  subst H
  exact go_return (.slice (some ⟨b2, 0, none⟩) (([((1, 2) : Int × Int), ((2, 6) : Int × Int), ((1, 3) : Int × Int), ((3, 4) : Int × Int), ((4, 5) : Int × Int), ((5, 6) : Int × Int), ((6, 7) : Int × Int), ((7, 8) : Int × Int)] : List (Int × Int)).length) 8) Try.func15 (by kernel_rfl) ⟨(some ⟨b2, 0, none⟩), 8, rfl, hI⟩

/-! ### assizeref13.Below -/
theorem enter13 (a : Array Value) : Sem.pureRun Try.prog (callFunc 13 a) = some (.enter 13 a) := by kernel_rfl
theorem assizeref13zBelow.body_calls (rec : Int → Int → Option Bool) (hrec : ∀ (a0 : Int) (a1 : Int) (M : Mem) (w : World) (hI : Inv M w []) (r : Bool) (H : rec a0 a1 = some r),
    Calls Try.prog 13 #[.int .i64 a0, .int .i64 a1] w fun e w' => e = .returned (.bool r) ∧ Inv M w' []) (a0 : Int) (a1 : Int) (M : Mem) (w : World) (hI : Inv M w []) (r : Bool) (H : assizeref13zBelow.body rec a0 a1 = some r) :
    Calls Try.prog 13 #[.int .i64 a0, .int .i64 a1] w fun e w' => e = .returned (.bool r) ∧ Inv M w' [] := by
  refine calls_go (updL (fun _ => undef) [(0, .int .i64 a0), (1, .int .i64 a1)]) Try.func13 rfl (by kernel_rfl) ?_
  intro cs
  unfold assizeref13zBelow.body at H
  refine go_seq ?_
  refine r_in ?_
  refine o_batch 0 [] [.p] [(4, .bool false)] [] trivial trivial (by kernel_rfl) (by kernel_rfl) (by kernel_rfl) ?_
  refine r_out (by kernel_rfl) ?_
  refine go_seq ?_
  refine go_seq_join (o := r) (fun b9 f w => ∃ (j : Nat → Value), f = updL j [(0, .int .i64 a0), (1, .int .i64 a1), (20, .bool b9)] ∧ Inv M w []) (fun b9 => assizeref13zBelow.j1 rec a0 a1 b9) ?_ (fun hJ10 => ?_)
  · clear H hI
    rintro b9 _ _ ⟨_, rfl, hI⟩ H
    replace H := cond_some H
    rcases H with ⟨hc11, H⟩ | ⟨hc11, H⟩
    · refine go_then' (t := b9) (by kernel_rfl) hc11 ?_
      refine go_seq ?_
      refine r_in ?_
      refine o_batch 0 [] [.p] [(4, .bool false)] [] trivial trivial (by kernel_rfl) (by kernel_rfl) (by kernel_rfl) ?_
      refine r_out (by kernel_rfl) ?_
      replace H := Option.some.inj H
      subst H
      exact go_return (.bool false) Try.func13 (by kernel_rfl) ⟨rfl, hI⟩
    · refine go_else' (t := b9) (by kernel_rfl) hc11 ?_
      refine go_skip ?_
      refine go_seq ?_
      refine go_seq ?_
      refine r_in ?_
      refine o_batch 0 [] [.p, .p, .p] [(21, .int .i64 a0), (22, .int .i64 a1), (23, .bool (a0 == a1))] [] trivial trivial (by kernel_rfl) (by kernel_rfl) (by kernel_rfl) ?_
      refine r_out (by kernel_rfl) ?_
      replace H := cond_some H
      rcases H with ⟨hc13, H⟩ | ⟨hc13, H⟩
      · refine go_then' (t := (a0 == a1)) (by kernel_rfl) hc13 ?_
        refine go_seq ?_
        refine r_in ?_
        refine o_batch 0 [] [.p] [(4, .bool true)] [] trivial trivial (by kernel_rfl) (by kernel_rfl) (by kernel_rfl) ?_
        refine r_out (by kernel_rfl) ?_
        replace H := Option.some.inj H
        subst H
        exact go_return (.bool true) Try.func13 (by kernel_rfl) ⟨rfl, hI⟩
      · refine go_else' (t := (a0 == a1)) (by kernel_rfl) hc13 ?_
        refine go_skip ?_
        refine go_seq ?_
        refine r_in ?_
        replace H := bind_some H
        obtain ⟨y18, hy19, H⟩ := H
        have hyc : y18 = assizeref13zPairs_lit := (Option.some.inj hy19).symm
        subst hyc
        refine o_eff 0 _ rfl (by kernel_rfl) ?_
        refine e_callf _ _ _ 15 #[] #[] #[] #[] rfl (by kernel_rfl) (by kernel_rfl) (by kernel_rfl) (enter15 _) (assizeref13zPairs_calls (memOf _) _ (Inv.start _) _ hy19) ?_
        rintro _ _ ⟨A20, c21, rfl, hI'⟩
        replace hI := hI.call0 hI'
        clear hI'
        refine ⟨_, rfl, ?_⟩
        refine o_batch 1 [] [.p] [(5, .slice A20 assizeref13zPairs_lit.length c21)] [] trivial trivial (by kernel_rfl) (by kernel_rfl) (by kernel_rfl) ?_
        refine r_out (by kernel_rfl) ?_
        refine go_seq ?_
        refine go_seq ?_
        refine r_in ?_
        refine o_batch 0 [] [.p] [(6, .int .i64 0)] [] trivial trivial (by kernel_rfl) (by kernel_rfl) (by kernel_rfl) ?_
        refine r_out (by kernel_rfl) ?_
        refine go_block ?_
        refine go_iter (assizeref13zBelow.s2 rec a0 a1) (fun x103 f w => ∃ (j : Nat → Value), f = updL j [(0, .int .i64 a0), (1, .int .i64 a1), (5, .slice A20 assizeref13zPairs_lit.length c21), (6, .int .i64 x103)] ∧ Inv M w [.row (Ty.flat 2 (fun x : Int × Int => [.int .i64 x.1, .int .i64 x.2]) (fun _ => rfl) (fun _ => oneAll rfl)) 32 A20 assizeref13zPairs_lit.length c21 assizeref13zPairs_lit]) H ⟨_, at_slots _ (by kernel_rfl), hI⟩ ?_
        clear H hI
        rintro x103 _ _ o1 H ⟨_, rfl, hI⟩ hin1 hout1
        refine go_seq ?_
        refine go_seq ?_
        refine r_in ?_
        refine o_batch 0 [] [.p, .p, .p, .p] [(25, .int .i64 x103), (26, .slice A20 assizeref13zPairs_lit.length c21), (27, .int .i64 (assizeref13zPairs_lit.length : Int)), (28, .bool (decide (x103 < (assizeref13zPairs_lit.length : Int))))] [] trivial trivial (by kernel_rfl) (by kernel_rfl) (by kernel_rfl) ?_
        refine r_out (by kernel_rfl) ?_
        replace H := cond_some H
        rcases H with ⟨hc105, H⟩ | ⟨hc105, H⟩
        · refine go_then' (t := decide (x103 < (assizeref13zPairs_lit.length : Int))) (by kernel_rfl) hc105 ?_
          refine go_skip ?_
          refine go_seq ?_
          refine go_block ?_
          refine go_seq_join (o := o1) (fun b125 f w => ∃ (j : Nat → Value), f = updL j [(0, .int .i64 a0), (1, .int .i64 a1), (5, .slice A20 assizeref13zPairs_lit.length c21), (6, .int .i64 x103), (46, .bool b125)] ∧ Inv M w [.row (Ty.flat 2 (fun x : Int × Int => [.int .i64 x.1, .int .i64 x.2]) (fun _ => rfl) (fun _ => oneAll rfl)) 32 A20 assizeref13zPairs_lit.length c21 assizeref13zPairs_lit]) (fun b125 => assizeref13zBelow.j3 x103 b125) ?_ (fun hJ126 => ?_)
          · clear H hI
            rintro b125 _ _ ⟨_, rfl, hI⟩ H
            replace H := cond_some H
            rcases H with ⟨hc127, H⟩ | ⟨hc127, H⟩
            · refine go_then' (t := b125) (by kernel_rfl) hc127 ?_
              refine go_seq ?_
              refine r_in ?_
              refine o_batch 0 [] [.p] [(4, .bool true)] [] trivial trivial (by kernel_rfl) (by kernel_rfl) (by kernel_rfl) ?_
              refine r_out (by kernel_rfl) ?_
              replace H := out_some H
              obtain ⟨_, H, he1⟩ := H
              have he := (hout1 _ he1).symm
              subst he
              replace H := Option.some.inj H
              subst H
              exact go_return (.bool true) Try.func13 (by kernel_rfl) ⟨rfl, hI.pick [] (by decide) rfl⟩
            · refine go_else' (t := b125) (by kernel_rfl) hc127 ?_
              refine go_skip ?_
              refine go_inBlock ?_
              refine r_in ?_
              refine o_batch 0 [] [.p, .p, .p] [(29, .int .i64 x103), (30, .int .i64 (w64 (x103 + 1))), (6, .int .i64 (w64 (x103 + 1)))] [] trivial trivial (by kernel_rfl) (by kernel_rfl) (by kernel_rfl) ?_
              refine r_out (by kernel_rfl) ?_
              exact hin1 _ (Option.some.inj H).symm _ _ ⟨_, at_slots _ (by kernel_rfl), hI⟩
          · refine r_in ?_
            replace H := must_some H
            obtain ⟨g128, H⟩ := H
            obtain ⟨b129, rfl⟩ := hI.rowAt 0 rfl g128
            replace H := cond_some H
            rcases H with ⟨hc130, H⟩ | ⟨hc130, H⟩
            · refine o_batch 0 [(b129, 0 + x103.toNat * 2, [.int .i64 ((idx assizeref13zPairs_lit x103).1), .int .i64 ((idx assizeref13zPairs_lit x103).2)])] [.p, .p, .x, .p, .l 0 0, .p, .p, .c true, .p, .p, .x, .p, .l 0 1, .p] [(31, .slice (some ⟨b129, 0, none⟩) assizeref13zPairs_lit.length c21), (32, .int .i64 x103), (33, .pointer (some ⟨b129, 0 + x103.toNat * 2, none⟩)), (34, .pointer (some ⟨b129, 0 + x103.toNat * 2, none⟩)), (35, .int .i64 ((idx assizeref13zPairs_lit x103).1)), (36, .int .i64 a0), (37, .bool ((idx assizeref13zPairs_lit x103).1 == a0)), (38, .bool true), (39, .slice (some ⟨b129, 0, none⟩) assizeref13zPairs_lit.length c21), (40, .int .i64 x103), (41, .pointer (some ⟨b129, 0 + x103.toNat * 2, none⟩)), (42, .pointer (some ⟨b129, 0 + x103.toNat * 2 + 1, none⟩)), (43, .int .i64 ((idx assizeref13zPairs_lit x103).2)), (44, .int .i64 a1)] [(x103, assizeref13zPairs_lit.length), ((bif ((idx assizeref13zPairs_lit x103).1 == a0) == true then 0 else -1), 1), (x103, assizeref13zPairs_lit.length)] ⟨(rdS.flook (hI.row 0 rfl) (hI.rowlen 0 rfl) g128).ok, trivial⟩ ⟨g128, (bndEq hc130), g128, trivial⟩ (by kernel_rfl) (by kernel_rfl) (by kernel_rfl) ?_
              replace H := bind_some H
              obtain ⟨y131, hy132, H⟩ := H
              refine o_eff 14 _ rfl (by kernel_rfl) ?_
              refine e_callf _ _ _ 13 #[] #[] #[.int .i64 ((idx assizeref13zPairs_lit x103).2), .int .i64 a1] #[.int .i64 ((idx assizeref13zPairs_lit x103).2), .int .i64 a1] rfl (by kernel_rfl) (by kernel_rfl) (by kernel_rfl) (enter13 _) (hrec ((idx assizeref13zPairs_lit x103).2) a1 (memOf _) _ (Inv.start _) _ hy132) ?_
              rintro _ _ ⟨rfl, hI'⟩
              replace hI := hI.call0 hI'
              clear hI'
              refine ⟨_, rfl, ?_⟩
              refine o_batch 15 [] [.p] [(46, .bool y131)] [] trivial trivial (by kernel_rfl) (by kernel_rfl) (by kernel_rfl) ?_
              refine r_out (by kernel_rfl) ?_
              exact hJ126 y131 _ _ ⟨_, at_slots _ (by kernel_rfl), hI⟩ H
            · refine o_batch 0 [(b129, 0 + x103.toNat * 2, [.int .i64 ((idx assizeref13zPairs_lit x103).1), .int .i64 ((idx assizeref13zPairs_lit x103).2)])] [.p, .p, .x, .p, .l 0 0, .p, .p, .c false, .p, .p, .p, .p, .p, .p, .p, .p] [(31, .slice (some ⟨b129, 0, none⟩) assizeref13zPairs_lit.length c21), (32, .int .i64 x103), (33, .pointer (some ⟨b129, 0 + x103.toNat * 2, none⟩)), (34, .pointer (some ⟨b129, 0 + x103.toNat * 2, none⟩)), (35, .int .i64 ((idx assizeref13zPairs_lit x103).1)), (36, .int .i64 a0), (37, .bool ((idx assizeref13zPairs_lit x103).1 == a0)), (38, .bool false), (39, undef), (40, undef), (41, undef), (42, undef), (43, undef), (44, undef), (45, undef), (46, .bool false)] [(x103, assizeref13zPairs_lit.length), ((bif ((idx assizeref13zPairs_lit x103).1 == a0) == false then 0 else -1), 1)] ⟨(rdS.flook (hI.row 0 rfl) (hI.rowlen 0 rfl) g128).ok, trivial⟩ ⟨g128, (bndEq hc130), trivial⟩ (by kernel_rfl) (by kernel_rfl) (by kernel_rfl) ?_
              refine r_out (by kernel_rfl) ?_
              exact hJ126 false _ _ ⟨_, at_slots _ (by kernel_rfl), hI⟩ H
        · refine go_else' (t := decide (x103 < (assizeref13zPairs_lit.length : Int))) (by kernel_rfl) hc105 ?_
          refine go_exit rfl ?_
          refine go_seq ?_
          refine r_in ?_
          refine o_batch 0 [] [.p] [(4, .bool false)] [] trivial trivial (by kernel_rfl) (by kernel_rfl) (by kernel_rfl) ?_
          refine r_out (by kernel_rfl) ?_
          replace H := out_some H
          obtain ⟨_, H, he1⟩ := H
          have he := (hout1 _ he1).symm
          subst he
          replace H := Option.some.inj H
          subst H
          exact go_return (.bool false) Try.func13 (by kernel_rfl) ⟨rfl, hI.pick [] (by decide) rfl⟩
  · refine r_in ?_
    replace H := cond_some H
    rcases H with ⟨hc133, H⟩ | ⟨hc133, H⟩
    · refine o_batch 0 [] [.p, .p, .c true, .p, .p, .p, .p, .p, .p, .p, .p, .p, .p, .p] [(7, .int .i64 a0), (8, .bool (decide (a0 < 1))), (9, .bool true), (10, undef), (11, undef), (12, .bool true), (13, .bool true), (14, undef), (15, undef), (16, .bool true), (17, .bool true), (18, undef), (19, undef), (20, .bool true)] [((bif (decide (a0 < 1)) == true then 0 else -1), 1)] trivial ⟨(bndEq hc133), trivial⟩ (by kernel_rfl) (by kernel_rfl) (by kernel_rfl) ?_
      refine r_out (by kernel_rfl) ?_
      exact hJ10 true _ _ ⟨_, at_slots _ (by kernel_rfl), hI⟩ H
    · replace H := cond_some H
      rcases H with ⟨hc134, H⟩ | ⟨hc134, H⟩
      · refine o_batch 0 [] [.p, .p, .c false, .p, .p, .p, .c true, .p, .p, .p, .p, .p, .p, .p] [(7, .int .i64 a0), (8, .bool (decide (a0 < 1))), (9, .bool false), (10, .int .i64 a0), (11, .bool (decide (a0 > 8))), (12, .bool (decide (a0 > 8))), (13, .bool true), (14, undef), (15, undef), (16, .bool true), (17, .bool true), (18, undef), (19, undef), (20, .bool true)] [((bif (decide (a0 < 1)) == false then 0 else -1), 1), ((bif (decide (a0 > 8)) == true then 0 else -1), 1)] trivial ⟨(bndEq hc133), (bndEq hc134), trivial⟩ (by kernel_rfl) (by kernel_rfl) (by kernel_rfl) ?_
        refine r_out (by kernel_rfl) ?_
        exact hJ10 true _ _ ⟨_, at_slots _ (by kernel_rfl), hI⟩ H
      · replace H := cond_some H
        rcases H with ⟨hc135, H⟩ | ⟨hc135, H⟩
        · refine o_batch 0 [] [.p, .p, .c false, .p, .p, .p, .c false, .p, .p, .p, .c true, .p, .p, .p] [(7, .int .i64 a0), (8, .bool (decide (a0 < 1))), (9, .bool false), (10, .int .i64 a0), (11, .bool (decide (a0 > 8))), (12, .bool (decide (a0 > 8))), (13, .bool false), (14, .int .i64 a1), (15, .bool (decide (a1 < 1))), (16, .bool (decide (a1 < 1))), (17, .bool true), (18, undef), (19, undef), (20, .bool true)] [((bif (decide (a0 < 1)) == false then 0 else -1), 1), ((bif (decide (a0 > 8)) == false then 0 else -1), 1), ((bif (decide (a1 < 1)) == true then 0 else -1), 1)] trivial ⟨(bndEq hc133), (bndEq hc134), (bndEq hc135), trivial⟩ (by kernel_rfl) (by kernel_rfl) (by kernel_rfl) ?_
          refine r_out (by kernel_rfl) ?_
          exact hJ10 true _ _ ⟨_, at_slots _ (by kernel_rfl), hI⟩ H
        · refine o_batch 0 [] [.p, .p, .c false, .p, .p, .p, .c false, .p, .p, .p, .c false, .p, .p, .p] [(7, .int .i64 a0), (8, .bool (decide (a0 < 1))), (9, .bool false), (10, .int .i64 a0), (11, .bool (decide (a0 > 8))), (12, .bool (decide (a0 > 8))), (13, .bool false), (14, .int .i64 a1), (15, .bool (decide (a1 < 1))), (16, .bool (decide (a1 < 1))), (17, .bool false), (18, .int .i64 a1), (19, .bool (decide (a1 > 8))), (20, .bool (decide (a1 > 8)))] [((bif (decide (a0 < 1)) == false then 0 else -1), 1), ((bif (decide (a0 > 8)) == false then 0 else -1), 1), ((bif (decide (a1 < 1)) == false then 0 else -1), 1)] trivial ⟨(bndEq hc133), (bndEq hc134), (bndEq hc135), trivial⟩ (by kernel_rfl) (by kernel_rfl) (by kernel_rfl) ?_
          refine r_out (by kernel_rfl) ?_
          exact hJ10 (decide (a1 > 8)) _ _ ⟨_, at_slots _ (by kernel_rfl), hI⟩ H
theorem assizeref13zBelow.fuel_calls : ∀ (k : Nat) (a0 : Int) (a1 : Int) (M : Mem) (w : World) (hI : Inv M w []) (r : Bool) (H : assizeref13zBelow.fuel k a0 a1 = some r),
    Calls Try.prog 13 #[.int .i64 a0, .int .i64 a1] w fun e w' => e = .returned (.bool r) ∧ Inv M w' []
  | 0 => fun _ _ _ _ _ _ H => nomatch H
  | k + 1 => assizeref13zBelow.body_calls (assizeref13zBelow.fuel k) (assizeref13zBelow.fuel_calls k)
theorem assizeref13zBelow_calls (a0 : Int) (a1 : Int) (M : Mem) (w : World) (hI : Inv M w []) (r : Bool) (H : assizeref13zBelow a0 a1 = some r) :
    Calls Try.prog 13 #[.int .i64 a0, .int .i64 a1] w fun e w' => e = .returned (.bool r) ∧ Inv M w' [] := assizeref13zBelow.fuel_calls 64 a0 a1 M w hI r H

/-! ### assizelaw13.LevelTells -/
theorem enter3 (a : Array Value) : Sem.pureRun Try.prog (callFunc 3 a) = some (.enter 3 a) := by kernel_rfl
theorem assizelaw13zLevelTells_calls (a0 : Int) (a1 : Int) (a2 : ByteArray) (M : Mem) (w : World) (hI : Inv M w []) (r : Bool) (H : assizelaw13zLevelTells a0 a1 a2 = some r) :
    Calls Try.prog 3 #[.int .i64 a0, .int .i64 a1, .string a2] w fun e w' => e = .returned (.bool r) ∧ Inv M w' [] := by
  refine calls_go (updL (fun _ => undef) [(0, .int .i64 a0), (1, .int .i64 a1), (2, .string a2)]) Try.func3 rfl (by kernel_rfl) ?_
  intro cs
  unfold assizelaw13zLevelTells at H
  refine go_seq ?_
  refine r_in ?_
  refine o_batch 0 [] [.p] [(6, .bool false)] [] trivial trivial (by kernel_rfl) (by kernel_rfl) (by kernel_rfl) ?_
  refine r_out (by kernel_rfl) ?_
  refine go_seq ?_
  refine go_seq ?_
  refine r_in ?_
  replace H := bind_some H
  obtain ⟨y6, hy7, H⟩ := H
  refine o_eff 0 _ rfl (by kernel_rfl) ?_
  refine e_callf _ _ _ 7 #[] #[] #[] #[] rfl (by kernel_rfl) (by kernel_rfl) (by kernel_rfl) (enter7 _) (assizelaw13zalive_calls (memOf _) _ (Inv.start _) _ hy7) ?_
  rintro _ _ ⟨rfl, hI'⟩
  replace hI := hI.call0 hI'
  clear hI'
  refine ⟨_, rfl, ?_⟩
  refine o_batch 1 [] [.p] [(16, .bool (!y6))] [] trivial trivial (by kernel_rfl) (by kernel_rfl) (by kernel_rfl) ?_
  refine r_out (by kernel_rfl) ?_
  replace H := cond_some H
  rcases H with ⟨hc8, H⟩ | ⟨hc8, H⟩
  · refine go_then' (t := !y6) (by kernel_rfl) hc8 ?_
    refine go_seq ?_
    refine r_in ?_
    refine o_batch 0 [] [.p] [(6, .bool false)] [] trivial trivial (by kernel_rfl) (by kernel_rfl) (by kernel_rfl) ?_
    refine r_out (by kernel_rfl) ?_
    replace H := Option.some.inj H
    subst H
    exact go_return (.bool false) Try.func3 (by kernel_rfl) ⟨rfl, hI⟩
  · refine go_else' (t := !y6) (by kernel_rfl) hc8 ?_
    refine go_skip ?_
    refine go_seq ?_
    refine r_in ?_
    refine o_batch 0 [] [.p] [(18, .int .i64 a0)] [] trivial trivial (by kernel_rfl) (by kernel_rfl) (by kernel_rfl) ?_
    replace H := bind_some H
    obtain ⟨y11, hy12, H⟩ := H
    refine o_eff 1 _ rfl (by kernel_rfl) ?_
    refine e_callf _ _ _ 8 #[] #[] #[.int .i64 a0] #[.int .i64 a0] rfl (by kernel_rfl) (by kernel_rfl) (by kernel_rfl) (enter8 _) (level_Name_calls a0 (memOf _) _ (Inv.start _) _ hy12) ?_
    rintro _ _ ⟨rfl, hI'⟩
    replace hI := hI.call0 hI'
    clear hI'
    refine ⟨_, rfl, ?_⟩
    refine o_batch 2 [] [.p, .p, .p, .p, .p] [(17, .tuple #[.string y11.1, .int .i64 y11.2]), (20, .string y11.1), (21, .int .i64 y11.2), (7, .string y11.1), (8, .int .i64 y11.2)] [] trivial trivial (by kernel_rfl) (by kernel_rfl) (by kernel_rfl) ?_
    refine r_out (by kernel_rfl) ?_
    refine go_seq ?_
    refine r_in ?_
    refine o_batch 0 [] [.p] [(23, .int .i64 a0)] [] trivial trivial (by kernel_rfl) (by kernel_rfl) (by kernel_rfl) ?_
    replace H := bind_some H
    obtain ⟨y15, hy16, H⟩ := H
    refine o_eff 1 _ rfl (by kernel_rfl) ?_
    refine e_callf _ _ _ 9 #[] #[] #[.int .i64 a0] #[.int .i64 a0] rfl (by kernel_rfl) (by kernel_rfl) (by kernel_rfl) (enter9 _) (assizeref13zName_calls a0 (memOf _) _ (Inv.start _) _ hy16) ?_
    rintro _ _ ⟨rfl, hI'⟩
    replace hI := hI.call0 hI'
    clear hI'
    refine ⟨_, rfl, ?_⟩
    refine o_batch 2 [] [.p, .p, .p, .p, .p] [(22, .tuple #[.string y15.1, .int .i64 y15.2]), (25, .string y15.1), (26, .int .i64 y15.2), (9, .string y15.1), (10, .int .i64 y15.2)] [] trivial trivial (by kernel_rfl) (by kernel_rfl) (by kernel_rfl) ?_
    refine r_out (by kernel_rfl) ?_
    refine go_seq ?_
    refine r_in ?_
    refine o_batch 0 [] [.p] [(28, .string a2)] [] trivial trivial (by kernel_rfl) (by kernel_rfl) (by kernel_rfl) ?_
    replace H := bind_some H
    obtain ⟨y19, hy20, H⟩ := H
    refine o_eff 1 _ rfl (by kernel_rfl) ?_
    refine e_callf _ _ _ 10 #[] #[] #[.string a2] #[.string a2] rfl (by kernel_rfl) (by kernel_rfl) (by kernel_rfl) (enter10 _) (level_Parse_calls a2 (memOf _) _ (Inv.start _) _ hy20) ?_
    rintro _ _ ⟨rfl, hI'⟩
    replace hI := hI.call0 hI'
    clear hI'
    refine ⟨_, rfl, ?_⟩
    refine o_batch 2 [] [.p, .p, .p, .p, .p] [(27, .tuple #[.int .i64 y19.1, .int .i64 y19.2]), (30, .int .i64 y19.1), (31, .int .i64 y19.2), (11, .int .i64 y19.1), (12, .int .i64 y19.2)] [] trivial trivial (by kernel_rfl) (by kernel_rfl) (by kernel_rfl) ?_
    refine r_out (by kernel_rfl) ?_
    refine go_seq ?_
    refine r_in ?_
    refine o_batch 0 [] [.p] [(33, .string a2)] [] trivial trivial (by kernel_rfl) (by kernel_rfl) (by kernel_rfl) ?_
    replace H := bind_some H
    obtain ⟨y23, hy24, H⟩ := H
    refine o_eff 1 _ rfl (by kernel_rfl) ?_
    refine e_callf _ _ _ 11 #[] #[] #[.string a2] #[.string a2] rfl (by kernel_rfl) (by kernel_rfl) (by kernel_rfl) (enter11 _) (assizeref13zParse_calls a2 (memOf _) _ (Inv.start _) _ hy24) ?_
    rintro _ _ ⟨rfl, hI'⟩
    replace hI := hI.call0 hI'
    clear hI'
    refine ⟨_, rfl, ?_⟩
    refine o_batch 2 [] [.p, .p, .p, .p, .p] [(32, .tuple #[.int .i64 y23.1, .int .i64 y23.2]), (35, .int .i64 y23.1), (36, .int .i64 y23.2), (13, .int .i64 y23.1), (14, .int .i64 y23.2)] [] trivial trivial (by kernel_rfl) (by kernel_rfl) (by kernel_rfl) ?_
    refine r_out (by kernel_rfl) ?_
    refine go_seq ?_
    refine go_seq_join (o := r) (fun b43 f w => ∃ (j : Nat → Value), f = updL j [(0, .int .i64 a0), (7, .string y11.1), (8, .int .i64 y11.2), (63, .bool b43)] ∧ Inv M w []) (fun b43 => assizelaw13zLevelTells.j1 a0 y11 b43) ?_ (fun hJ44 => ?_)
    · clear H hI
      rintro b43 _ _ ⟨_, rfl, hI⟩ H
      replace H := cond_some H
      rcases H with ⟨hc45, H⟩ | ⟨hc45, H⟩
      · refine go_then' (t := b43) (by kernel_rfl) hc45 ?_
        refine go_seq ?_
        refine r_in ?_
        refine o_batch 0 [] [.p] [(6, .bool false)] [] trivial trivial (by kernel_rfl) (by kernel_rfl) (by kernel_rfl) ?_
        refine r_out (by kernel_rfl) ?_
        replace H := Option.some.inj H
        subst H
        exact go_return (.bool false) Try.func3 (by kernel_rfl) ⟨rfl, hI⟩
      · refine go_else' (t := b43) (by kernel_rfl) hc45 ?_
        refine go_skip ?_
        refine go_seq ?_
        refine go_seq ?_
        refine r_in ?_
        refine o_batch 0 [] [.p, .p] [(64, .int .i64 y11.2), (65, .bool (y11.2 != 0))] [] trivial trivial (by kernel_rfl) (by kernel_rfl) (by kernel_rfl) ?_
        refine r_out (by kernel_rfl) ?_
        replace H := cond_some H
        rcases H with ⟨hc47, H⟩ | ⟨hc47, H⟩
        · refine go_then' (t := (y11.2 != 0)) (by kernel_rfl) hc47 ?_
          refine go_seq ?_
          refine r_in ?_
          refine o_batch 0 [] [.p] [(6, .bool true)] [] trivial trivial (by kernel_rfl) (by kernel_rfl) (by kernel_rfl) ?_
          refine r_out (by kernel_rfl) ?_
          replace H := Option.some.inj H
          subst H
          exact go_return (.bool true) Try.func3 (by kernel_rfl) ⟨rfl, hI⟩
        · refine go_else' (t := (y11.2 != 0)) (by kernel_rfl) hc47 ?_
          refine go_skip ?_
          refine go_seq ?_
          refine r_in ?_
          refine o_batch 0 [] [.p] [(67, .string y11.1)] [] trivial trivial (by kernel_rfl) (by kernel_rfl) (by kernel_rfl) ?_
          replace H := bind_some H
          obtain ⟨y50, hy51, H⟩ := H
          refine o_eff 1 _ rfl (by kernel_rfl) ?_
          refine e_callf _ _ _ 10 #[] #[] #[.string y11.1] #[.string y11.1] rfl (by kernel_rfl) (by kernel_rfl) (by kernel_rfl) (enter10 _) (level_Parse_calls y11.1 (memOf _) _ (Inv.start _) _ hy51) ?_
          rintro _ _ ⟨rfl, hI'⟩
          replace hI := hI.call0 hI'
          clear hI'
          refine ⟨_, rfl, ?_⟩
          refine o_batch 2 [] [.p, .p, .p, .p, .p] [(66, .tuple #[.int .i64 y50.1, .int .i64 y50.2]), (69, .int .i64 y50.1), (70, .int .i64 y50.2), (11, .int .i64 y50.1), (12, .int .i64 y50.2)] [] trivial trivial (by kernel_rfl) (by kernel_rfl) (by kernel_rfl) ?_
          refine r_out (by kernel_rfl) ?_
          refine go_seq ?_
          refine r_in ?_
          replace H := cond_some H
          rcases H with ⟨hc53, H⟩ | ⟨hc53, H⟩
          · refine o_batch 0 [] [.p, .p, .c true, .p, .p, .p, .p, .p] [(71, .int .i64 y50.2), (72, .bool (y50.2 == 0)), (73, .bool true), (74, .int .i64 y50.1), (75, .int .i64 a0), (76, .bool (y50.1 == a0)), (77, .bool (y50.1 == a0)), (6, .bool (y50.1 == a0))] [((bif (y50.2 == 0) == true then 0 else -1), 1)] trivial ⟨(bndEq hc53), trivial⟩ (by kernel_rfl) (by kernel_rfl) (by kernel_rfl) ?_
            refine r_out (by kernel_rfl) ?_
            replace H := Option.some.inj H
            subst H
            exact go_return (.bool (y50.1 == a0)) Try.func3 (by kernel_rfl) ⟨rfl, hI⟩
          · refine o_batch 0 [] [.p, .p, .c false, .p, .p, .p, .p, .p] [(71, .int .i64 y50.2), (72, .bool (y50.2 == 0)), (73, .bool false), (74, undef), (75, undef), (76, undef), (77, .bool false), (6, .bool false)] [((bif (y50.2 == 0) == false then 0 else -1), 1)] trivial ⟨(bndEq hc53), trivial⟩ (by kernel_rfl) (by kernel_rfl) (by kernel_rfl) ?_
            refine r_out (by kernel_rfl) ?_
            replace H := Option.some.inj H
            subst H
            exact go_return (.bool false) Try.func3 (by kernel_rfl) ⟨rfl, hI⟩
    · refine r_in ?_
      replace H := cond_some H
      rcases H with ⟨hc54, H⟩ | ⟨hc54, H⟩
      · refine o_batch 0 [] [.p, .p, .p, .c true, .p, .p, .p, .p, .p, .p, .p, .p, .p, .p, .p, .p, .p, .p, .p, .p, .p, .p, .p, .p, .p, .p, .p] [(37, .string y11.1), (38, .string y15.1), (39, .bool (!(sEq y11.1 y15.1))), (40, .bool true), (41, undef), (42, undef), (43, undef), (44, .bool true), (45, .bool true), (46, undef), (47, undef), (48, undef), (49, .bool true), (50, .bool true), (51, undef), (52, undef), (53, undef), (54, .bool true), (55, .bool true), (56, undef), (57, undef), (58, undef), (59, undef), (60, undef), (61, undef), (62, undef), (63, .bool true)] [((bif (!(sEq y11.1 y15.1)) == true then 0 else -1), 1)] trivial ⟨(bndEq hc54), trivial⟩ (by kernel_rfl) (by kernel_rfl) (by kernel_rfl) ?_
        refine r_out (by kernel_rfl) ?_
        exact hJ44 true _ _ ⟨_, at_slots _ (by kernel_rfl), hI⟩ H
      · replace H := cond_some H
        rcases H with ⟨hc55, H⟩ | ⟨hc55, H⟩
        · refine o_batch 0 [] [.p, .p, .p, .c false, .p, .p, .p, .p, .c true, .p, .p, .p, .p, .p, .p, .p, .p, .p, .p, .p, .p, .p, .p, .p, .p, .p, .p] [(37, .string y11.1), (38, .string y15.1), (39, .bool (!(sEq y11.1 y15.1))), (40, .bool false), (41, .int .i64 y11.2), (42, .int .i64 y15.2), (43, .bool (y11.2 != y15.2)), (44, .bool (y11.2 != y15.2)), (45, .bool true), (46, undef), (47, undef), (48, undef), (49, .bool true), (50, .bool true), (51, undef), (52, undef), (53, undef), (54, .bool true), (55, .bool true), (56, undef), (57, undef), (58, undef), (59, undef), (60, undef), (61, undef), (62, undef), (63, .bool true)] [((bif (!(sEq y11.1 y15.1)) == false then 0 else -1), 1), ((bif (y11.2 != y15.2) == true then 0 else -1), 1)] trivial ⟨(bndEq hc54), (bndEq hc55), trivial⟩ (by kernel_rfl) (by kernel_rfl) (by kernel_rfl) ?_
          refine r_out (by kernel_rfl) ?_
          exact hJ44 true _ _ ⟨_, at_slots _ (by kernel_rfl), hI⟩ H
        · replace H := cond_some H
          rcases H with ⟨hc56, H⟩ | ⟨hc56, H⟩
          · refine o_batch 0 [] [.p, .p, .p, .c false, .p, .p, .p, .p, .c false, .p, .p, .p, .p, .c true, .p, .p, .p, .p, .p, .p, .p, .p, .p, .p, .p, .p, .p] [(37, .string y11.1), (38, .string y15.1), (39, .bool (!(sEq y11.1 y15.1))), (40, .bool false), (41, .int .i64 y11.2), (42, .int .i64 y15.2), (43, .bool (y11.2 != y15.2)), (44, .bool (y11.2 != y15.2)), (45, .bool false), (46, .int .i64 y19.1), (47, .int .i64 y23.1), (48, .bool (y19.1 != y23.1)), (49, .bool (y19.1 != y23.1)), (50, .bool true), (51, undef), (52, undef), (53, undef), (54, .bool true), (55, .bool true), (56, undef), (57, undef), (58, undef), (59, undef), (60, undef), (61, undef), (62, undef), (63, .bool true)] [((bif (!(sEq y11.1 y15.1)) == false then 0 else -1), 1), ((bif (y11.2 != y15.2) == false then 0 else -1), 1), ((bif (y19.1 != y23.1) == true then 0 else -1), 1)] trivial ⟨(bndEq hc54), (bndEq hc55), (bndEq hc56), trivial⟩ (by kernel_rfl) (by kernel_rfl) (by kernel_rfl) ?_
            refine r_out (by kernel_rfl) ?_
            exact hJ44 true _ _ ⟨_, at_slots _ (by kernel_rfl), hI⟩ H
          · replace H := cond_some H
            rcases H with ⟨hc57, H⟩ | ⟨hc57, H⟩
            · refine o_batch 0 [] [.p, .p, .p, .c false, .p, .p, .p, .p, .c false, .p, .p, .p, .p, .c false, .p, .p, .p, .p, .c true, .p, .p, .p, .p, .p, .p, .p, .p] [(37, .string y11.1), (38, .string y15.1), (39, .bool (!(sEq y11.1 y15.1))), (40, .bool false), (41, .int .i64 y11.2), (42, .int .i64 y15.2), (43, .bool (y11.2 != y15.2)), (44, .bool (y11.2 != y15.2)), (45, .bool false), (46, .int .i64 y19.1), (47, .int .i64 y23.1), (48, .bool (y19.1 != y23.1)), (49, .bool (y19.1 != y23.1)), (50, .bool false), (51, .int .i64 y19.2), (52, .int .i64 y23.2), (53, .bool (y19.2 != y23.2)), (54, .bool (y19.2 != y23.2)), (55, .bool true), (56, undef), (57, undef), (58, undef), (59, undef), (60, undef), (61, undef), (62, undef), (63, .bool true)] [((bif (!(sEq y11.1 y15.1)) == false then 0 else -1), 1), ((bif (y11.2 != y15.2) == false then 0 else -1), 1), ((bif (y19.1 != y23.1) == false then 0 else -1), 1), ((bif (y19.2 != y23.2) == true then 0 else -1), 1)] trivial ⟨(bndEq hc54), (bndEq hc55), (bndEq hc56), (bndEq hc57), trivial⟩ (by kernel_rfl) (by kernel_rfl) (by kernel_rfl) ?_
              refine r_out (by kernel_rfl) ?_
              exact hJ44 true _ _ ⟨_, at_slots _ (by kernel_rfl), hI⟩ H
            · refine o_batch 0 [] [.p, .p, .p, .c false, .p, .p, .p, .p, .c false, .p, .p, .p, .p, .c false, .p, .p, .p, .p, .c false, .p, .p] [(37, .string y11.1), (38, .string y15.1), (39, .bool (!(sEq y11.1 y15.1))), (40, .bool false), (41, .int .i64 y11.2), (42, .int .i64 y15.2), (43, .bool (y11.2 != y15.2)), (44, .bool (y11.2 != y15.2)), (45, .bool false), (46, .int .i64 y19.1), (47, .int .i64 y23.1), (48, .bool (y19.1 != y23.1)), (49, .bool (y19.1 != y23.1)), (50, .bool false), (51, .int .i64 y19.2), (52, .int .i64 y23.2), (53, .bool (y19.2 != y23.2)), (54, .bool (y19.2 != y23.2)), (55, .bool false), (56, .int .i64 a0), (57, .int .i64 a1)] [((bif (!(sEq y11.1 y15.1)) == false then 0 else -1), 1), ((bif (y11.2 != y15.2) == false then 0 else -1), 1), ((bif (y19.1 != y23.1) == false then 0 else -1), 1), ((bif (y19.2 != y23.2) == false then 0 else -1), 1)] trivial ⟨(bndEq hc54), (bndEq hc55), (bndEq hc56), (bndEq hc57), trivial⟩ (by kernel_rfl) (by kernel_rfl) (by kernel_rfl) ?_
              replace H := bind_some H
              obtain ⟨y58, hy59, H⟩ := H
              refine o_eff 21 _ rfl (by kernel_rfl) ?_
              refine e_callf _ _ _ 12 #[] #[] #[.int .i64 a0, .int .i64 a1] #[.int .i64 a0, .int .i64 a1] rfl (by kernel_rfl) (by kernel_rfl) (by kernel_rfl) (enter12 _) (level_Below_calls a0 a1 (memOf _) _ (Inv.start _) _ hy59) ?_
              rintro _ _ ⟨rfl, hI'⟩
              replace hI := hI.call0 hI'
              clear hI'
              refine ⟨_, rfl, ?_⟩
              refine o_batch 22 [] [.p, .p] [(59, .int .i64 a0), (60, .int .i64 a1)] [] trivial trivial (by kernel_rfl) (by kernel_rfl) (by kernel_rfl) ?_
              replace H := bind_some H
              obtain ⟨y60, hy61, H⟩ := H
              refine o_eff 24 _ rfl (by kernel_rfl) ?_
              refine e_callf _ _ _ 13 #[] #[] #[.int .i64 a0, .int .i64 a1] #[.int .i64 a0, .int .i64 a1] rfl (by kernel_rfl) (by kernel_rfl) (by kernel_rfl) (enter13 _) (assizeref13zBelow_calls a0 a1 (memOf _) _ (Inv.start _) _ hy61) ?_
              rintro _ _ ⟨rfl, hI'⟩
              replace hI := hI.call0 hI'
              clear hI'
              refine ⟨_, rfl, ?_⟩
              refine o_batch 25 [] [.p, .p] [(62, .bool (y58 != y60)), (63, .bool (y58 != y60))] [] trivial trivial (by kernel_rfl) (by kernel_rfl) (by kernel_rfl) ?_
              refine r_out (by kernel_rfl) ?_
              exact hJ44 (y58 != y60) _ _ ⟨_, at_slots _ (by kernel_rfl), hI⟩ H

/-! ### assizelaw13.LevelOrder -/
theorem enter4 (a : Array Value) : Sem.pureRun Try.prog (callFunc 4 a) = some (.enter 4 a) := by kernel_rfl
theorem assizelaw13zLevelOrder_calls (a0 : Int) (a1 : Int) (a2 : Int) (M : Mem) (w : World) (hI : Inv M w []) (r : Bool) (H : assizelaw13zLevelOrder a0 a1 a2 = some r) :
    Calls Try.prog 4 #[.int .i64 a0, .int .i64 a1, .int .i64 a2] w fun e w' => e = .returned (.bool r) ∧ Inv M w' [] := by
  refine calls_go (updL (fun _ => undef) [(0, .int .i64 a0), (1, .int .i64 a1), (2, .int .i64 a2)]) Try.func4 rfl (by kernel_rfl) ?_
  intro cs
  unfold assizelaw13zLevelOrder at H
  refine go_seq ?_
  refine r_in ?_
  refine o_batch 0 [] [.p] [(6, .bool false)] [] trivial trivial (by kernel_rfl) (by kernel_rfl) (by kernel_rfl) ?_
  refine r_out (by kernel_rfl) ?_
  refine go_seq ?_
  refine go_seq ?_
  refine r_in ?_
  replace H := bind_some H
  obtain ⟨y6, hy7, H⟩ := H
  refine o_eff 0 _ rfl (by kernel_rfl) ?_
  refine e_callf _ _ _ 7 #[] #[] #[] #[] rfl (by kernel_rfl) (by kernel_rfl) (by kernel_rfl) (enter7 _) (assizelaw13zalive_calls (memOf _) _ (Inv.start _) _ hy7) ?_
  rintro _ _ ⟨rfl, hI'⟩
  replace hI := hI.call0 hI'
  clear hI'
  refine ⟨_, rfl, ?_⟩
  refine o_batch 1 [] [.p] [(17, .bool (!y6))] [] trivial trivial (by kernel_rfl) (by kernel_rfl) (by kernel_rfl) ?_
  refine r_out (by kernel_rfl) ?_
  replace H := cond_some H
  rcases H with ⟨hc8, H⟩ | ⟨hc8, H⟩
  · refine go_then' (t := !y6) (by kernel_rfl) hc8 ?_
    refine go_seq ?_
    refine r_in ?_
    refine o_batch 0 [] [.p] [(6, .bool false)] [] trivial trivial (by kernel_rfl) (by kernel_rfl) (by kernel_rfl) ?_
    refine r_out (by kernel_rfl) ?_
    replace H := Option.some.inj H
    subst H
    exact go_return (.bool false) Try.func4 (by kernel_rfl) ⟨rfl, hI⟩
  · refine go_else' (t := !y6) (by kernel_rfl) hc8 ?_
    refine go_skip ?_
    refine go_seq ?_
    refine r_in ?_
    refine o_batch 0 [] [.p, .p] [(18, .int .i64 a0), (19, .int .i64 a1)] [] trivial trivial (by kernel_rfl) (by kernel_rfl) (by kernel_rfl) ?_
    replace H := bind_some H
    obtain ⟨y15, hy16, H⟩ := H
    refine o_eff 2 _ rfl (by kernel_rfl) ?_
    refine e_callf _ _ _ 12 #[] #[] #[.int .i64 a0, .int .i64 a1] #[.int .i64 a0, .int .i64 a1] rfl (by kernel_rfl) (by kernel_rfl) (by kernel_rfl) (enter12 _) (level_Below_calls a0 a1 (memOf _) _ (Inv.start _) _ hy16) ?_
    rintro _ _ ⟨rfl, hI'⟩
    replace hI := hI.call0 hI'
    clear hI'
    refine ⟨_, rfl, ?_⟩
    refine o_batch 3 [] [.p, .p] [(21, .int .i64 a1), (22, .int .i64 a2)] [] trivial trivial (by kernel_rfl) (by kernel_rfl) (by kernel_rfl) ?_
    replace H := bind_some H
    obtain ⟨y17, hy18, H⟩ := H
    refine o_eff 5 _ rfl (by kernel_rfl) ?_
    refine e_callf _ _ _ 12 #[] #[] #[.int .i64 a1, .int .i64 a2] #[.int .i64 a1, .int .i64 a2] rfl (by kernel_rfl) (by kernel_rfl) (by kernel_rfl) (enter12 _) (level_Below_calls a1 a2 (memOf _) _ (Inv.start _) _ hy18) ?_
    rintro _ _ ⟨rfl, hI'⟩
    replace hI := hI.call0 hI'
    clear hI'
    refine ⟨_, rfl, ?_⟩
    refine o_batch 6 [] [.p, .p] [(24, .int .i64 a0), (25, .int .i64 a2)] [] trivial trivial (by kernel_rfl) (by kernel_rfl) (by kernel_rfl) ?_
    replace H := bind_some H
    obtain ⟨y19, hy20, H⟩ := H
    refine o_eff 8 _ rfl (by kernel_rfl) ?_
    refine e_callf _ _ _ 12 #[] #[] #[.int .i64 a0, .int .i64 a2] #[.int .i64 a0, .int .i64 a2] rfl (by kernel_rfl) (by kernel_rfl) (by kernel_rfl) (enter12 _) (level_Below_calls a0 a2 (memOf _) _ (Inv.start _) _ hy20) ?_
    rintro _ _ ⟨rfl, hI'⟩
    replace hI := hI.call0 hI'
    clear hI'
    refine ⟨_, rfl, ?_⟩
    refine o_batch 9 [] [.p, .p, .p] [(7, .bool y15), (8, .bool y17), (9, .bool y19)] [] trivial trivial (by kernel_rfl) (by kernel_rfl) (by kernel_rfl) ?_
    refine r_out (by kernel_rfl) ?_
    refine go_seq ?_
    refine go_seq_join (o := r) (fun b41 f w => ∃ (j : Nat → Value), f = updL j [(0, .int .i64 a0), (1, .int .i64 a1), (7, .bool y15), (47, .bool b41)] ∧ Inv M w []) (fun b41 => assizelaw13zLevelOrder.j1 a0 a1 y15 b41) ?_ (fun hJ42 => ?_)
    · clear H hI
      rintro b41 _ _ ⟨_, rfl, hI⟩ H
      replace H := cond_some H
      rcases H with ⟨hc43, H⟩ | ⟨hc43, H⟩
      · refine go_then' (t := b41) (by kernel_rfl) hc43 ?_
        refine go_seq ?_
        refine r_in ?_
        refine o_batch 0 [] [.p] [(6, .bool false)] [] trivial trivial (by kernel_rfl) (by kernel_rfl) (by kernel_rfl) ?_
        refine r_out (by kernel_rfl) ?_
        replace H := Option.some.inj H
        subst H
        exact go_return (.bool false) Try.func4 (by kernel_rfl) ⟨rfl, hI⟩
      · refine go_else' (t := b41) (by kernel_rfl) hc43 ?_
        refine go_skip ?_
        refine go_seq_join (o := r) (fun b45 f w => ∃ (j : Nat → Value), f = updL j [(0, .int .i64 a0), (1, .int .i64 a1), (7, .bool y15), (10, .bool b45)] ∧ Inv M w []) (fun b45 => assizelaw13zLevelOrder.j2 a0 a1 y15 b45) ?_ (fun hJ46 => ?_)
        · clear H hI
          rintro b45 _ _ ⟨_, rfl, hI⟩ H
          refine go_seq ?_
          refine go_seq ?_
          refine r_in ?_
          refine o_batch 0 [] [.p, .p] [(54, .int .i64 a0), (55, .int .i64 a0)] [] trivial trivial (by kernel_rfl) (by kernel_rfl) (by kernel_rfl) ?_
          replace H := bind_some H
          obtain ⟨y52, hy53, H⟩ := H
          refine o_eff 2 _ rfl (by kernel_rfl) ?_
          refine e_callf _ _ _ 12 #[] #[] #[.int .i64 a0, .int .i64 a0] #[.int .i64 a0, .int .i64 a0] rfl (by kernel_rfl) (by kernel_rfl) (by kernel_rfl) (enter12 _) (level_Below_calls a0 a0 (memOf _) _ (Inv.start _) _ hy53) ?_
          rintro _ _ ⟨rfl, hI'⟩
          replace hI := hI.call0 hI'
          clear hI'
          refine ⟨_, rfl, ?_⟩
          refine o_batch 3 [] [.p, .p] [(57, .bool b45), (58, .bool (y52 != b45))] [] trivial trivial (by kernel_rfl) (by kernel_rfl) (by kernel_rfl) ?_
          refine r_out (by kernel_rfl) ?_
          replace H := cond_some H
          rcases H with ⟨hc54, H⟩ | ⟨hc54, H⟩
          · refine go_then' (t := (y52 != b45)) (by kernel_rfl) hc54 ?_
            refine go_seq ?_
            refine r_in ?_
            refine o_batch 0 [] [.p] [(6, .bool false)] [] trivial trivial (by kernel_rfl) (by kernel_rfl) (by kernel_rfl) ?_
            refine r_out (by kernel_rfl) ?_
            replace H := Option.some.inj H
            subst H
            exact go_return (.bool false) Try.func4 (by kernel_rfl) ⟨rfl, hI⟩
          · refine go_else' (t := (y52 != b45)) (by kernel_rfl) hc54 ?_
            refine go_skip ?_
            refine go_seq ?_
            refine r_in ?_
            replace H := bind_some H
            obtain ⟨y59, hy60, H⟩ := H
            have hyc : y59 = level_Pairs_lit := (Option.some.inj hy60).symm
            subst hyc
            refine o_eff 0 _ rfl (by kernel_rfl) ?_
            refine e_callf _ _ _ 14 #[] #[] #[] #[] rfl (by kernel_rfl) (by kernel_rfl) (by kernel_rfl) (enter14 _) (level_Pairs_calls (memOf _) _ (Inv.start _) _ hy60) ?_
            rintro _ _ ⟨A61, c62, rfl, hI'⟩
            replace hI := hI.call0 hI'
            clear hI'
            refine ⟨_, rfl, ?_⟩
            refine o_batch 1 [] [.p] [(11, .slice A61 level_Pairs_lit.length c62)] [] trivial trivial (by kernel_rfl) (by kernel_rfl) (by kernel_rfl) ?_
            refine r_out (by kernel_rfl) ?_
            refine go_seq ?_
            refine r_in ?_
            replace H := bind_some H
            obtain ⟨y67, hy68, H⟩ := H
            have hyc : y67 = assizeref13zPairs_lit := (Option.some.inj hy68).symm
            subst hyc
            refine o_eff 0 _ rfl (by kernel_rfl) ?_
            refine e_callf _ _ _ 15 #[] #[] #[] #[] rfl (by kernel_rfl) (by kernel_rfl) (by kernel_rfl) (enter15 _) (assizeref13zPairs_calls (memOf _) _ (Inv.start _) _ hy68) ?_
            rintro _ _ ⟨A69, c70, rfl, hI'⟩
            replace hI := hI.call0 hI'
            clear hI'
            refine ⟨_, rfl, ?_⟩
            refine o_batch 1 [] [.p] [(12, .slice A69 assizeref13zPairs_lit.length c70)] [] trivial trivial (by kernel_rfl) (by kernel_rfl) (by kernel_rfl) ?_
            refine r_out (by kernel_rfl) ?_
            refine go_seq ?_
            refine go_seq ?_
            refine r_in ?_
            refine o_batch 0 [] [.p, .p, .p, .p, .p] [(61, .slice A61 level_Pairs_lit.length c62), (62, .int .i64 (level_Pairs_lit.length : Int)), (63, .slice A69 assizeref13zPairs_lit.length c70), (64, .int .i64 (assizeref13zPairs_lit.length : Int)), (65, .bool ((level_Pairs_lit.length : Int) != (assizeref13zPairs_lit.length : Int)))] [] trivial trivial (by kernel_rfl) (by kernel_rfl) (by kernel_rfl) ?_
            refine r_out (by kernel_rfl) ?_
            replace H := cond_some H
            rcases H with ⟨hc72, H⟩ | ⟨hc72, H⟩
            · refine go_then' (t := ((level_Pairs_lit.length : Int) != (assizeref13zPairs_lit.length : Int))) (by kernel_rfl) hc72 ?_
              refine go_seq ?_
              refine r_in ?_
              refine o_batch 0 [] [.p] [(6, .bool false)] [] trivial trivial (by kernel_rfl) (by kernel_rfl) (by kernel_rfl) ?_
              refine r_out (by kernel_rfl) ?_
              replace H := Option.some.inj H
              subst H
              exact go_return (.bool false) Try.func4 (by kernel_rfl) ⟨rfl, hI.pick [] (by decide) rfl⟩
            · refine go_else' (t := ((level_Pairs_lit.length : Int) != (assizeref13zPairs_lit.length : Int))) (by kernel_rfl) hc72 ?_
              refine go_skip ?_
              refine go_seq_join (o := r) (fun b74 f w => ∃ (j : Nat → Value), f = updL j [(0, .int .i64 a0), (1, .int .i64 a1), (7, .bool y15), (11, .slice A61 level_Pairs_lit.length c62), (12, .slice A69 assizeref13zPairs_lit.length c70), (13, .bool b74)] ∧ Inv M w [.row (Ty.flat 2 (fun x : Int × Int => [.int .i64 x.1, .int .i64 x.2]) (fun _ => rfl) (fun _ => oneAll rfl)) 32 A61 level_Pairs_lit.length c62 level_Pairs_lit, .row (Ty.flat 2 (fun x : Int × Int => [.int .i64 x.1, .int .i64 x.2]) (fun _ => rfl) (fun _ => oneAll rfl)) 32 A69 assizeref13zPairs_lit.length c70 assizeref13zPairs_lit]) (fun b74 => assizelaw13zLevelOrder.j3 a0 a1 y15 b74) ?_ (fun hJ75 => ?_)
              · clear H hI
                rintro b74 _ _ ⟨_, rfl, hI⟩ H
                refine go_seq ?_
                refine go_seq ?_
                refine r_in ?_
                refine o_batch 0 [] [.p] [(14, .int .i64 0)] [] trivial trivial (by kernel_rfl) (by kernel_rfl) (by kernel_rfl) ?_
                refine r_out (by kernel_rfl) ?_
                refine go_block ?_
                refine go_iter (assizelaw13zLevelOrder.s4 a0 a1 y15) (fun (l313, b316, x317) f w => ∃ (j : Nat → Value) (A314 : Option Addr) (c315 : Nat), f = updL j [(0, .int .i64 a0), (1, .int .i64 a1), (7, .bool y15), (11, .slice A314 l313.length c315), (12, .slice A69 assizeref13zPairs_lit.length c70), (13, .bool b316), (14, .int .i64 x317)] ∧ Inv M w [.row (Ty.flat 2 (fun x : Int × Int => [.int .i64 x.1, .int .i64 x.2]) (fun _ => rfl) (fun _ => oneAll rfl)) 32 A314 l313.length c315 l313, .row (Ty.flat 2 (fun x : Int × Int => [.int .i64 x.1, .int .i64 x.2]) (fun _ => rfl) (fun _ => oneAll rfl)) 32 A69 assizeref13zPairs_lit.length c70 assizeref13zPairs_lit]) H ⟨_, A61, c62, at_slots _ (by kernel_rfl), hI⟩ ?_
                clear H hI
                rintro ⟨l313, b316, x317⟩ _ _ o1 H ⟨_, A314, c315, rfl, hI⟩ hin1 hout1
                refine go_seq ?_
                refine go_seq ?_
                refine r_in ?_
                refine o_batch 0 [] [.p, .p, .p, .p] [(72, .int .i64 x317), (73, .slice A314 l313.length c315), (74, .int .i64 (l313.length : Int)), (75, .bool (decide (x317 < (l313.length : Int))))] [] trivial trivial (by kernel_rfl) (by kernel_rfl) (by kernel_rfl) ?_
                refine r_out (by kernel_rfl) ?_
                replace H := cond_some H
                rcases H with ⟨hc319, H⟩ | ⟨hc319, H⟩
                · refine go_then' (t := decide (x317 < (l313.length : Int))) (by kernel_rfl) hc319 ?_
                  refine go_skip ?_
                  refine go_seq ?_
                  refine go_block ?_
                  refine go_seq ?_
                  refine go_seq_join (o := o1) (fun b372 f w => ∃ (j : Nat → Value), f = updL j [(0, .int .i64 a0), (1, .int .i64 a1), (7, .bool y15), (11, .slice A314 l313.length c315), (12, .slice A69 assizeref13zPairs_lit.length c70), (13, .bool b316), (14, .int .i64 x317), (100, .bool b372)] ∧ Inv M w [.row (Ty.flat 2 (fun x : Int × Int => [.int .i64 x.1, .int .i64 x.2]) (fun _ => rfl) (fun _ => oneAll rfl)) 32 A314 l313.length c315 l313, .row (Ty.flat 2 (fun x : Int × Int => [.int .i64 x.1, .int .i64 x.2]) (fun _ => rfl) (fun _ => oneAll rfl)) 32 A69 assizeref13zPairs_lit.length c70 assizeref13zPairs_lit]) (fun b372 => assizelaw13zLevelOrder.j5 a0 a1 l313 b316 x317 b372) ?_ (fun hJ373 => ?_)
                  · clear H hI
                    rintro b372 _ _ ⟨_, rfl, hI⟩ H
                    replace H := cond_some H
                    rcases H with ⟨hc374, H⟩ | ⟨hc374, H⟩
                    · refine go_then' (t := b372) (by kernel_rfl) hc374 ?_
                      refine go_seq ?_
                      refine r_in ?_
                      refine o_batch 0 [] [.p] [(6, .bool false)] [] trivial trivial (by kernel_rfl) (by kernel_rfl) (by kernel_rfl) ?_
                      refine r_out (by kernel_rfl) ?_
                      replace H := out_some H
                      obtain ⟨_, H, he1⟩ := H
                      have he := (hout1 _ he1).symm
                      subst he
                      replace H := Option.some.inj H
                      subst H
                      exact go_return (.bool false) Try.func4 (by kernel_rfl) ⟨rfl, hI.pick [] (by decide) rfl⟩
                    · refine go_else' (t := b372) (by kernel_rfl) hc374 ?_
                      refine go_skip ?_
                      refine go_seq_join (o := o1) (fun b381 f w => ∃ (j : Nat → Value), f = updL j [(0, .int .i64 a0), (1, .int .i64 a1), (7, .bool y15), (11, .slice A314 l313.length c315), (12, .slice A69 assizeref13zPairs_lit.length c70), (13, .bool b381), (14, .int .i64 x317)] ∧ Inv M w [.row (Ty.flat 2 (fun x : Int × Int => [.int .i64 x.1, .int .i64 x.2]) (fun _ => rfl) (fun _ => oneAll rfl)) 32 A314 l313.length c315 l313, .row (Ty.flat 2 (fun x : Int × Int => [.int .i64 x.1, .int .i64 x.2]) (fun _ => rfl) (fun _ => oneAll rfl)) 32 A69 assizeref13zPairs_lit.length c70 assizeref13zPairs_lit]) (fun b381 => assizelaw13zLevelOrder.j6 l313 x317 b381) ?_ (fun hJ382 => ?_)
                      · clear H hI
                        rintro b381 _ _ ⟨_, rfl, hI⟩ H
                        refine r_in ?_
                        replace H := must_some H
                        obtain ⟨g383, H⟩ := H
                        obtain ⟨b384, rfl⟩ := hI.rowAt 0 rfl g383
                        refine o_batch 0 [] [.p, .p, .p, .x] [(120, .slice (some ⟨b384, 0, none⟩) l313.length c315), (121, .int .i64 x317), (122, .agg #[.int .i64 0, .int .i64 0]), (123, .pointer (some ⟨b384, 0 + x317.toNat * 2, none⟩))] [(x317, l313.length)] trivial ⟨g383, trivial⟩ (by kernel_rfl) (by kernel_rfl) (by kernel_rfl) ?_
                        refine o_eff 4 _ rfl (by kernel_rfl) ?_
                        refine e_put 32 _ _ 0 b384 32 l313.length c315 l313 ((0, 0) : Int × Int) x317 0 (.agg #[.int .i64 0, .int .i64 0]) rfl (by kernel_rfl) (by kernel_rfl) (by kernel_rfl) (by kernel_rfl) hI rfl g383 (by kernel_rfl) (by kernel_rfl) ?_
                        clear hI
                        intro _ hI
                        refine r_out (by kernel_rfl) ?_
                        refine go_inBlock ?_
                        refine r_in ?_
                        refine o_batch 0 [] [.p, .p, .p] [(76, .int .i64 x317), (77, .int .i64 (w64 (x317 + 1))), (14, .int .i64 (w64 (x317 + 1)))] [] trivial trivial (by kernel_rfl) (by kernel_rfl) (by kernel_rfl) ?_
                        refine r_out (by kernel_rfl) ?_
                        refine go_is 11 (.slice (some ⟨b384, 0, none⟩) l313.length c315) (.slice (some ⟨b384, 0, none⟩) ((l313.set x317.toNat ((0, 0) : Int × Int)).length) c315) (by kernel_rfl) (by first | rfl | simp only [List.length_set, List.length_replicate, List.length_nil]) ?_
                        replace hI := hI.renum 0 rfl
                        exact hin1 _ (Option.some.inj H).symm _ _ ⟨_, (some ⟨b384, 0, none⟩), c315, at_slots _ (by kernel_rfl), hI⟩
                      · refine r_in ?_
                        replace H := cond_some H
                        rcases H with ⟨hc385, H⟩ | ⟨hc385, H⟩
                        · refine o_batch 0 [] [.p, .c true, .p, .p, .p, .p, .p, .p, .p, .p, .p, .p, .p, .p, .p, .p, .p, .p, .p, .p] [(101, .bool b316), (102, .bool true), (103, undef), (104, undef), (105, undef), (106, undef), (107, undef), (108, undef), (109, undef), (110, undef), (111, undef), (112, undef), (113, undef), (114, undef), (115, undef), (116, undef), (117, undef), (118, undef), (119, .bool true), (13, .bool true)] [((bif b316 == true then 0 else -1), 1)] trivial ⟨(bndEq hc385), trivial⟩ (by kernel_rfl) (by kernel_rfl) (by kernel_rfl) ?_
                          refine r_out (by kernel_rfl) ?_
                          exact hJ382 true _ _ ⟨_, at_slots _ (by kernel_rfl), hI⟩ H
                        · replace H := must_some H
                          obtain ⟨g386, H⟩ := H
                          obtain ⟨b387, rfl⟩ := hI.rowAt 0 rfl g386
                          replace H := cond_some H
                          rcases H with ⟨hc388, H⟩ | ⟨hc388, H⟩
                          · refine o_batch 0 [(b387, 0 + x317.toNat * 2, [.int .i64 ((idx l313 x317).1), .int .i64 ((idx l313 x317).2)])] [.p, .c false, .p, .p, .x, .p, .l 0 0, .p, .p, .c true, .p, .p, .x, .p, .l 0 1, .p] [(101, .bool b316), (102, .bool false), (103, .slice (some ⟨b387, 0, none⟩) l313.length c315), (104, .int .i64 x317), (105, .pointer (some ⟨b387, 0 + x317.toNat * 2, none⟩)), (106, .pointer (some ⟨b387, 0 + x317.toNat * 2, none⟩)), (107, .int .i64 ((idx l313 x317).1)), (108, .int .i64 a0), (109, .bool ((idx l313 x317).1 == a0)), (110, .bool true), (111, .slice (some ⟨b387, 0, none⟩) l313.length c315), (112, .int .i64 x317), (113, .pointer (some ⟨b387, 0 + x317.toNat * 2, none⟩)), (114, .pointer (some ⟨b387, 0 + x317.toNat * 2 + 1, none⟩)), (115, .int .i64 ((idx l313 x317).2)), (116, .int .i64 a1)] [((bif b316 == false then 0 else -1), 1), (x317, l313.length), ((bif ((idx l313 x317).1 == a0) == true then 0 else -1), 1), (x317, l313.length)] ⟨(rdS.flook (hI.row 0 rfl) (hI.rowlen 0 rfl) g386).ok, trivial⟩ ⟨(bndEq hc385), g386, (bndEq hc388), g386, trivial⟩ (by kernel_rfl) (by kernel_rfl) (by kernel_rfl) ?_
                            replace H := bind_some H
                            obtain ⟨y389, hy390, H⟩ := H
                            refine o_eff 16 _ rfl (by kernel_rfl) ?_
                            refine e_callf _ _ _ 12 #[] #[] #[.int .i64 ((idx l313 x317).2), .int .i64 a1] #[.int .i64 ((idx l313 x317).2), .int .i64 a1] rfl (by kernel_rfl) (by kernel_rfl) (by kernel_rfl) (enter12 _) (level_Below_calls ((idx l313 x317).2) a1 (memOf _) _ (Inv.start _) _ hy390) ?_
                            rintro _ _ ⟨rfl, hI'⟩
                            replace hI := hI.call0 hI'
                            clear hI'
                            refine ⟨_, rfl, ?_⟩
                            refine o_batch 17 [] [.p, .p, .p] [(118, .bool y389), (119, .bool y389), (13, .bool y389)] [] trivial trivial (by kernel_rfl) (by kernel_rfl) (by kernel_rfl) ?_
                            refine r_out (by kernel_rfl) ?_
                            exact hJ382 y389 _ _ ⟨_, at_slots _ (by kernel_rfl), hI⟩ H
                          · refine o_batch 0 [(b387, 0 + x317.toNat * 2, [.int .i64 ((idx l313 x317).1), .int .i64 ((idx l313 x317).2)])] [.p, .c false, .p, .p, .x, .p, .l 0 0, .p, .p, .c false, .p, .p, .p, .p, .p, .p, .p, .p, .p, .p] [(101, .bool b316), (102, .bool false), (103, .slice (some ⟨b387, 0, none⟩) l313.length c315), (104, .int .i64 x317), (105, .pointer (some ⟨b387, 0 + x317.toNat * 2, none⟩)), (106, .pointer (some ⟨b387, 0 + x317.toNat * 2, none⟩)), (107, .int .i64 ((idx l313 x317).1)), (108, .int .i64 a0), (109, .bool ((idx l313 x317).1 == a0)), (110, .bool false), (111, undef), (112, undef), (113, undef), (114, undef), (115, undef), (116, undef), (117, undef), (118, .bool false), (119, .bool false), (13, .bool false)] [((bif b316 == false then 0 else -1), 1), (x317, l313.length), ((bif ((idx l313 x317).1 == a0) == false then 0 else -1), 1)] ⟨(rdS.flook (hI.row 0 rfl) (hI.rowlen 0 rfl) g386).ok, trivial⟩ ⟨(bndEq hc385), g386, (bndEq hc388), trivial⟩ (by kernel_rfl) (by kernel_rfl) (by kernel_rfl) ?_
                            refine r_out (by kernel_rfl) ?_
                            exact hJ382 false _ _ ⟨_, at_slots _ (by kernel_rfl), hI⟩ H
                  · replace H := must_some H
                    obtain ⟨g391, H⟩ := H
                    obtain ⟨b392, rfl⟩ := hI.rowAt 0 rfl g391
                    replace H := must_some H
                    obtain ⟨g393, H⟩ := H
                    obtain ⟨b394, rfl⟩ := hI.rowAt 1 rfl g393
                    replace H := cond_some H
                    rcases H with ⟨hc395, H⟩ | ⟨hc395, H⟩
                    · refine d_still [(b392, 0 + x317.toNat * 2, [.int .i64 ((idx l313 x317).1), .int .i64 ((idx l313 x317).2)]), (b394, 0 + x317.toNat * 2, [.int .i64 ((idx assizeref13zPairs_lit x317).1), .int .i64 ((idx assizeref13zPairs_lit x317).2)])] [.p, .p, .x, .l 0 0, .p, .p, .x, .l 1 0, .x, .c true, .p, .p, .p, .p, .p, .p, .p, .p, .p, .p, .p, .p, .p] [(78, .slice (some ⟨b392, 0, none⟩) l313.length c315), (79, .int .i64 x317), (80, .pointer (some ⟨b392, 0 + x317.toNat * 2, none⟩)), (81, .agg #[.int .i64 ((idx l313 x317).1), .int .i64 ((idx l313 x317).2)]), (82, .slice (some ⟨b394, 0, none⟩) assizeref13zPairs_lit.length c70), (83, .int .i64 x317), (84, .pointer (some ⟨b394, 0 + x317.toNat * 2, none⟩)), (85, .agg #[.int .i64 ((idx assizeref13zPairs_lit x317).1), .int .i64 ((idx assizeref13zPairs_lit x317).2)]), (86, .bool (!(((idx l313 x317).1 == (idx assizeref13zPairs_lit x317).1) && ((idx l313 x317).2 == (idx assizeref13zPairs_lit x317).2)))), (87, .bool true), (88, undef), (89, undef), (90, undef), (91, undef), (92, undef), (93, undef), (94, undef), (95, undef), (96, undef), (97, undef), (98, undef), (99, undef), (100, .bool true)] [(x317, l313.length), (x317, assizeref13zPairs_lit.length), ((bif (!(((idx l313 x317).1 == (idx assizeref13zPairs_lit x317).1) && ((idx l313 x317).2 == (idx assizeref13zPairs_lit x317).2))) == true then 0 else -1), 1)] (by kernel_rfl) (by kernel_rfl) rfl ⟨(rdS.flook (hI.row 0 rfl) (hI.rowlen 0 rfl) g391).ok, (rdS.flook (hI.row 1 rfl) (hI.rowlen 1 rfl) g393).ok, trivial⟩ ⟨g391, g393, (bndEq hc395), trivial⟩ (by kernel_rfl) (by kernel_rfl) (by kernel_rfl) hI ?_
                      clear hI
                      intro _ hI
                      exact hJ373 true _ _ ⟨_, at_slots _ (by kernel_rfl), hI⟩ H
                    · replace H := bind_some H
                      obtain ⟨y396, hy397, H⟩ := H
                      refine go_held (fun w => Inv M w [.row (Ty.flat 2 (fun x : Int × Int => [.int .i64 x.1, .int .i64 x.2]) (fun _ => rfl) (fun _ => oneAll rfl)) 32 (some ⟨b392, 0, none⟩) l313.length c315 l313, .row (Ty.flat 2 (fun x : Int × Int => [.int .i64 x.1, .int .i64 x.2]) (fun _ => rfl) (fun _ => oneAll rfl)) 32 (some ⟨b394, 0, none⟩) assizeref13zPairs_lit.length c70 assizeref13zPairs_lit]) (by kernel_rfl) ?_
                      replace hI := hI.drew'
                      refine held_batch (n := 3) [(b392, 0 + x317.toNat * 2, [.int .i64 ((idx l313 x317).1), .int .i64 ((idx l313 x317).2)]), (b394, 0 + x317.toNat * 2, [.int .i64 ((idx assizeref13zPairs_lit x317).1), .int .i64 ((idx assizeref13zPairs_lit x317).2)])] [(0, .p), (1, .p), (2, .x), (3, .l 0 0), (4, .p), (5, .p), (6, .x), (7, .l 1 0), (8, .x), (9, .c false), (10, .p), (11, .p), (12, .x), (13, .p), (14, .l 0 0), (15, .p), (16, .p), (17, .x), (18, .p), (19, .l 0 1)] [(78, .slice (some ⟨b392, 0, none⟩) l313.length c315), (79, .int .i64 x317), (80, .pointer (some ⟨b392, 0 + x317.toNat * 2, none⟩)), (81, .agg #[.int .i64 ((idx l313 x317).1), .int .i64 ((idx l313 x317).2)]), (82, .slice (some ⟨b394, 0, none⟩) assizeref13zPairs_lit.length c70), (83, .int .i64 x317), (84, .pointer (some ⟨b394, 0 + x317.toNat * 2, none⟩)), (85, .agg #[.int .i64 ((idx assizeref13zPairs_lit x317).1), .int .i64 ((idx assizeref13zPairs_lit x317).2)]), (86, .bool (!(((idx l313 x317).1 == (idx assizeref13zPairs_lit x317).1) && ((idx l313 x317).2 == (idx assizeref13zPairs_lit x317).2)))), (87, .bool false), (88, .slice (some ⟨b392, 0, none⟩) l313.length c315), (89, .int .i64 x317), (90, .pointer (some ⟨b392, 0 + x317.toNat * 2, none⟩)), (91, .pointer (some ⟨b392, 0 + x317.toNat * 2, none⟩)), (92, .int .i64 ((idx l313 x317).1)), (93, .slice (some ⟨b392, 0, none⟩) l313.length c315), (94, .int .i64 x317), (95, .pointer (some ⟨b392, 0 + x317.toNat * 2, none⟩)), (96, .pointer (some ⟨b392, 0 + x317.toNat * 2 + 1, none⟩)), (97, .int .i64 ((idx l313 x317).2))] [(x317, l313.length), (x317, assizeref13zPairs_lit.length), ((bif (!(((idx l313 x317).1 == (idx assizeref13zPairs_lit x317).1) && ((idx l313 x317).2 == (idx assizeref13zPairs_lit x317).2))) == false then 0 else -1), 1), (x317, l313.length), (x317, l313.length)] [true, true, true, true, true, true, true, true, true, true, true, true, true, true, true, true, true, true, true, true, false, false, false] (by kernel_rfl) (fun w hS => ⟨(rdS.flook (hS.row 0 rfl) (hS.rowlen 0 rfl) g391).ok, (rdS.flook (hS.row 1 rfl) (hS.rowlen 1 rfl) g393).ok, trivial⟩) hI ⟨g391, g393, (bndEq hc395), g391, g391, trivial⟩ (by kernel_rfl) (by kernel_rfl) (by kernel_rfl) ?_
                      refine held_one (n := 2) 20 _ rfl (by kernel_rfl) (by kernel_rfl) (e_callf _ _ _ 12 #[] #[] #[.int .i64 ((idx l313 x317).1), .int .i64 ((idx l313 x317).2)] #[.int .i64 ((idx l313 x317).1), .int .i64 ((idx l313 x317).2)] rfl (by kernel_rfl) (by kernel_rfl) (by kernel_rfl) (enter12 _) (level_Below_calls ((idx l313 x317).1) ((idx l313 x317).2) (memOf _) _ (Inv.start _) _ hy397) ?_)
                      rintro _ _ ⟨rfl, hI'⟩
                      replace hI := hI.call0 hI'
                      clear hI'
                      refine ⟨_, rfl, ?_⟩
                      refine ⟨hI, ?_⟩
                      refine held_batch (n := 0) [] [(21, .p), (22, .p)] [(99, .bool (!y396)), (100, .bool (!y396))] [] [true, true, true, true, true, true, true, true, true, true, true, true, true, true, true, true, true, true, true, true, true, true, true] (by kernel_rfl) (fun w hS => trivial) hI trivial (by kernel_rfl) (by kernel_rfl) (by kernel_rfl) ?_
                      refine held_done (by kernel_rfl) ?_
                      exact hJ373 (!y396) _ _ ⟨_, at_slots _ (by kernel_rfl), hI⟩ H
                · refine go_else' (t := decide (x317 < (l313.length : Int))) (by kernel_rfl) hc319 ?_
                  refine go_exit rfl ?_
                  refine go_seq ?_
                  refine r_in ?_
                  replace H := bind_some H
                  obtain ⟨y402, hy403, H⟩ := H
                  have hyc : y402 = level_Pairs_lit := (Option.some.inj hy403).symm
                  subst hyc
                  refine o_eff 0 _ rfl (by kernel_rfl) ?_
                  refine e_callf _ _ _ 14 #[] #[] #[] #[] rfl (by kernel_rfl) (by kernel_rfl) (by kernel_rfl) (enter14 _) (level_Pairs_calls (memOf _) _ (Inv.start _) _ hy403) ?_
                  rintro _ _ ⟨A404, c405, rfl, hI'⟩
                  replace hI := hI.call0 hI'
                  clear hI'
                  refine ⟨_, rfl, ?_⟩
                  refine o_batch 1 [] [.p] [(15, .slice A404 level_Pairs_lit.length c405)] [] trivial trivial (by kernel_rfl) (by kernel_rfl) (by kernel_rfl) ?_
                  refine r_out (by kernel_rfl) ?_
                  refine go_seq ?_
                  replace H := cond_some H
                  rcases H with ⟨hc412, H⟩ | ⟨hc412, H⟩
                  · replace H := cond_some H
                    rcases H with ⟨hc413, H⟩ | ⟨hc413, H⟩
                    · replace H := must_some H
                      obtain ⟨g414, H⟩ := H
                      obtain ⟨b415, rfl⟩ := hI.rowAt 2 rfl g414
                      replace H := must_some H
                      obtain ⟨g416, H⟩ := H
                      obtain ⟨b417, rfl⟩ := hI.rowAt 1 rfl g416
                      refine d_still [(b415, 0 + (0 : Int).toNat * 2, [.int .i64 ((idx level_Pairs_lit (0 : Int)).1), .int .i64 ((idx level_Pairs_lit (0 : Int)).2)]), (b417, 0 + (0 : Int).toNat * 2, [.int .i64 ((idx assizeref13zPairs_lit (0 : Int)).1), .int .i64 ((idx assizeref13zPairs_lit (0 : Int)).2)])] [.p, .p, .p, .c true, .p, .p, .p, .p, .c true, .p, .x, .l 0 0, .p, .x, .l 1 0, .x, .p, .p] [(125, .bool b316), (126, .bool y15), (127, .bool (b316 == y15)), (128, .bool true), (129, .slice (some ⟨b415, 0, none⟩) level_Pairs_lit.length c405), (130, .int .i64 (level_Pairs_lit.length : Int)), (131, .bool ((level_Pairs_lit.length : Int) == 8)), (132, .bool ((level_Pairs_lit.length : Int) == 8)), (133, .bool true), (134, .slice (some ⟨b415, 0, none⟩) level_Pairs_lit.length c405), (135, .pointer (some ⟨b415, 0 + (0 : Int).toNat * 2, none⟩)), (136, .agg #[.int .i64 ((idx level_Pairs_lit (0 : Int)).1), .int .i64 ((idx level_Pairs_lit (0 : Int)).2)]), (137, .slice (some ⟨b417, 0, none⟩) assizeref13zPairs_lit.length c70), (138, .pointer (some ⟨b417, 0 + (0 : Int).toNat * 2, none⟩)), (139, .agg #[.int .i64 ((idx assizeref13zPairs_lit (0 : Int)).1), .int .i64 ((idx assizeref13zPairs_lit (0 : Int)).2)]), (140, .bool (((idx level_Pairs_lit (0 : Int)).1 == (idx assizeref13zPairs_lit (0 : Int)).1) && ((idx level_Pairs_lit (0 : Int)).2 == (idx assizeref13zPairs_lit (0 : Int)).2))), (141, .bool (((idx level_Pairs_lit (0 : Int)).1 == (idx assizeref13zPairs_lit (0 : Int)).1) && ((idx level_Pairs_lit (0 : Int)).2 == (idx assizeref13zPairs_lit (0 : Int)).2))), (6, .bool (((idx level_Pairs_lit (0 : Int)).1 == (idx assizeref13zPairs_lit (0 : Int)).1) && ((idx level_Pairs_lit (0 : Int)).2 == (idx assizeref13zPairs_lit (0 : Int)).2)))] [((bif (b316 == y15) == true then 0 else -1), 1), ((bif ((level_Pairs_lit.length : Int) == 8) == true then 0 else -1), 1), (0, level_Pairs_lit.length), (0, assizeref13zPairs_lit.length)] (by kernel_rfl) (by kernel_rfl) rfl ⟨(rdS.flook (hI.row 2 rfl) (hI.rowlen 2 rfl) g414).ok, (rdS.flook (hI.row 1 rfl) (hI.rowlen 1 rfl) g416).ok, trivial⟩ ⟨(bndEq hc412), (bndEq hc413), g414, g416, trivial⟩ (by kernel_rfl) (by kernel_rfl) (by kernel_rfl) hI ?_
                      clear hI
                      intro _ hI
                      replace H := out_some H
                      obtain ⟨_, H, he1⟩ := H
                      have he := (hout1 _ he1).symm
                      subst he
                      replace H := Option.some.inj H
                      subst H
                      exact go_return (.bool (((idx level_Pairs_lit (0 : Int)).1 == (idx assizeref13zPairs_lit (0 : Int)).1) && ((idx level_Pairs_lit (0 : Int)).2 == (idx assizeref13zPairs_lit (0 : Int)).2))) Try.func4 (by kernel_rfl) ⟨rfl, hI.pick [] (by decide) rfl⟩
                    · refine d_still [] [.p, .p, .p, .c true, .p, .p, .p, .p, .c false, .p, .p, .p, .p, .p, .p, .p, .p, .p] [(125, .bool b316), (126, .bool y15), (127, .bool (b316 == y15)), (128, .bool true), (129, .slice A404 level_Pairs_lit.length c405), (130, .int .i64 (level_Pairs_lit.length : Int)), (131, .bool ((level_Pairs_lit.length : Int) == 8)), (132, .bool ((level_Pairs_lit.length : Int) == 8)), (133, .bool false), (134, undef), (135, undef), (136, undef), (137, undef), (138, undef), (139, undef), (140, undef), (141, .bool false), (6, .bool false)] [((bif (b316 == y15) == true then 0 else -1), 1), ((bif ((level_Pairs_lit.length : Int) == 8) == false then 0 else -1), 1)] (by kernel_rfl) (by kernel_rfl) rfl trivial ⟨(bndEq hc412), (bndEq hc413), trivial⟩ (by kernel_rfl) (by kernel_rfl) (by kernel_rfl) hI ?_
                      clear hI
                      intro _ hI
                      replace H := out_some H
                      obtain ⟨_, H, he1⟩ := H
                      have he := (hout1 _ he1).symm
                      subst he
                      replace H := Option.some.inj H
                      subst H
                      exact go_return (.bool false) Try.func4 (by kernel_rfl) ⟨rfl, hI.pick [] (by decide) rfl⟩
                  · refine d_still [] [.p, .p, .p, .c false, .p, .p, .p, .p, .p, .p, .p, .p, .p, .p, .p, .p, .p, .p] [(125, .bool b316), (126, .bool y15), (127, .bool (b316 == y15)), (128, .bool false), (129, undef), (130, undef), (131, undef), (132, .bool false), (133, .bool false), (134, undef), (135, undef), (136, undef), (137, undef), (138, undef), (139, undef), (140, undef), (141, .bool false), (6, .bool false)] [((bif (b316 == y15) == false then 0 else -1), 1)] (by kernel_rfl) (by kernel_rfl) rfl trivial ⟨(bndEq hc412), trivial⟩ (by kernel_rfl) (by kernel_rfl) (by kernel_rfl) hI ?_
                    clear hI
                    intro _ hI
                    replace H := out_some H
                    obtain ⟨_, H, he1⟩ := H
                    have he := (hout1 _ he1).symm
                    subst he
                    replace H := Option.some.inj H
                    subst H
                    exact go_return (.bool false) Try.func4 (by kernel_rfl) ⟨rfl, hI.pick [] (by decide) rfl⟩
              · refine r_in ?_
                replace H := cond_some H
                rcases H with ⟨hc418, H⟩ | ⟨hc418, H⟩
                · refine o_batch 0 [] [.p, .p, .p, .c true, .p, .p, .p] [(66, .int .i64 a0), (67, .int .i64 a1), (68, .bool (a0 == a1)), (69, .bool true), (70, .bool b45), (71, .bool b45), (13, .bool b45)] [((bif (a0 == a1) == true then 0 else -1), 1)] trivial ⟨(bndEq hc418), trivial⟩ (by kernel_rfl) (by kernel_rfl) (by kernel_rfl) ?_
                  refine r_out (by kernel_rfl) ?_
                  exact hJ75 b45 _ _ ⟨_, at_slots _ (by kernel_rfl), hI⟩ H
                · refine o_batch 0 [] [.p, .p, .p, .c false, .p, .p, .p] [(66, .int .i64 a0), (67, .int .i64 a1), (68, .bool (a0 == a1)), (69, .bool false), (70, undef), (71, .bool false), (13, .bool false)] [((bif (a0 == a1) == false then 0 else -1), 1)] trivial ⟨(bndEq hc418), trivial⟩ (by kernel_rfl) (by kernel_rfl) (by kernel_rfl) ?_
                  refine r_out (by kernel_rfl) ?_
                  exact hJ75 false _ _ ⟨_, at_slots _ (by kernel_rfl), hI⟩ H
        · refine r_in ?_
          replace H := cond_some H
          rcases H with ⟨hc419, H⟩ | ⟨hc419, H⟩
          · refine o_batch 0 [] [.p, .p, .c true, .p, .p, .p, .p] [(48, .int .i64 a0), (49, .bool (decide (a0 ≥ 1))), (50, .bool true), (51, .int .i64 a0), (52, .bool (decide (a0 ≤ 8))), (53, .bool (decide (a0 ≤ 8))), (10, .bool (decide (a0 ≤ 8)))] [((bif (decide (a0 ≥ 1)) == true then 0 else -1), 1)] trivial ⟨(bndEq hc419), trivial⟩ (by kernel_rfl) (by kernel_rfl) (by kernel_rfl) ?_
            refine r_out (by kernel_rfl) ?_
            exact hJ46 (decide (a0 ≤ 8)) _ _ ⟨_, at_slots _ (by kernel_rfl), hI⟩ H
          · refine o_batch 0 [] [.p, .p, .c false, .p, .p, .p, .p] [(48, .int .i64 a0), (49, .bool (decide (a0 ≥ 1))), (50, .bool false), (51, undef), (52, undef), (53, .bool false), (10, .bool false)] [((bif (decide (a0 ≥ 1)) == false then 0 else -1), 1)] trivial ⟨(bndEq hc419), trivial⟩ (by kernel_rfl) (by kernel_rfl) (by kernel_rfl) ?_
            refine r_out (by kernel_rfl) ?_
            exact hJ46 false _ _ ⟨_, at_slots _ (by kernel_rfl), hI⟩ H
    · refine r_in ?_
      replace H := cond_some H
      rcases H with ⟨hc420, H⟩ | ⟨hc420, H⟩
      · replace H := cond_some H
        rcases H with ⟨hc421, H⟩ | ⟨hc421, H⟩
        · replace H := cond_some H
          rcases H with ⟨hc422, H⟩ | ⟨hc422, H⟩
          · refine o_batch 0 [] [.p, .c true, .p, .p, .c true, .p, .p, .p, .c true, .p, .p, .p, .p, .p, .p, .p, .p, .p, .p, .p, .p] [(27, .bool y15), (28, .bool true), (29, .bool y17), (30, .bool y17), (31, .bool true), (32, .bool y19), (33, .bool (!y19)), (34, .bool (!y19)), (35, .bool true), (36, undef), (37, undef), (38, undef), (39, undef), (40, undef), (41, undef), (42, undef), (43, undef), (44, undef), (45, undef), (46, undef), (47, .bool true)] [((bif y15 == true then 0 else -1), 1), ((bif y17 == true then 0 else -1), 1), ((bif (!y19) == true then 0 else -1), 1)] trivial ⟨(bndEq hc420), (bndEq hc421), (bndEq hc422), trivial⟩ (by kernel_rfl) (by kernel_rfl) (by kernel_rfl) ?_
            refine r_out (by kernel_rfl) ?_
            exact hJ42 true _ _ ⟨_, at_slots _ (by kernel_rfl), hI⟩ H
          · refine o_batch 0 [] [.p, .c true, .p, .p, .c true, .p, .p, .p, .c false, .p, .c true, .p, .p] [(27, .bool y15), (28, .bool true), (29, .bool y17), (30, .bool y17), (31, .bool true), (32, .bool y19), (33, .bool (!y19)), (34, .bool (!y19)), (35, .bool false), (36, .bool y15), (37, .bool true), (38, .int .i64 a1), (39, .int .i64 a0)] [((bif y15 == true then 0 else -1), 1), ((bif y17 == true then 0 else -1), 1), ((bif (!y19) == false then 0 else -1), 1), ((bif y15 == true then 0 else -1), 1)] trivial ⟨(bndEq hc420), (bndEq hc421), (bndEq hc422), (bndEq hc420), trivial⟩ (by kernel_rfl) (by kernel_rfl) (by kernel_rfl) ?_
            replace H := bind_some H
            obtain ⟨y423, hy424, H⟩ := H
            refine o_eff 13 _ rfl (by kernel_rfl) ?_
            refine e_callf _ _ _ 12 #[] #[] #[.int .i64 a1, .int .i64 a0] #[.int .i64 a1, .int .i64 a0] rfl (by kernel_rfl) (by kernel_rfl) (by kernel_rfl) (enter12 _) (level_Below_calls a1 a0 (memOf _) _ (Inv.start _) _ hy424) ?_
            rintro _ _ ⟨rfl, hI'⟩
            replace hI := hI.call0 hI'
            clear hI'
            refine ⟨_, rfl, ?_⟩
            replace H := cond_some H
            rcases H with ⟨hc425, H⟩ | ⟨hc425, H⟩
            · refine o_batch 14 [] [.p, .c true, .p, .p, .p, .p, .p] [(41, .bool y423), (42, .bool true), (43, .int .i64 a0), (44, .int .i64 a1), (45, .bool (a0 != a1)), (46, .bool (a0 != a1)), (47, .bool (a0 != a1))] [((bif y423 == true then 0 else -1), 1)] trivial ⟨(bndEq hc425), trivial⟩ (by kernel_rfl) (by kernel_rfl) (by kernel_rfl) ?_
              refine r_out (by kernel_rfl) ?_
              exact hJ42 (a0 != a1) _ _ ⟨_, at_slots _ (by kernel_rfl), hI⟩ H
            · refine o_batch 14 [] [.p, .c false, .p, .p, .p, .p, .p] [(41, .bool y423), (42, .bool false), (43, undef), (44, undef), (45, undef), (46, .bool false), (47, .bool false)] [((bif y423 == false then 0 else -1), 1)] trivial ⟨(bndEq hc425), trivial⟩ (by kernel_rfl) (by kernel_rfl) (by kernel_rfl) ?_
              refine r_out (by kernel_rfl) ?_
              exact hJ42 false _ _ ⟨_, at_slots _ (by kernel_rfl), hI⟩ H
        · refine o_batch 0 [] [.p, .c true, .p, .p, .c false, .p, .p, .p, .p, .p, .c true, .p, .p] [(27, .bool y15), (28, .bool true), (29, .bool y17), (30, .bool y17), (31, .bool false), (32, undef), (33, undef), (34, .bool false), (35, .bool false), (36, .bool y15), (37, .bool true), (38, .int .i64 a1), (39, .int .i64 a0)] [((bif y15 == true then 0 else -1), 1), ((bif y17 == false then 0 else -1), 1), ((bif y15 == true then 0 else -1), 1)] trivial ⟨(bndEq hc420), (bndEq hc421), (bndEq hc420), trivial⟩ (by kernel_rfl) (by kernel_rfl) (by kernel_rfl) ?_
          replace H := bind_some H
          obtain ⟨y426, hy427, H⟩ := H
          refine o_eff 13 _ rfl (by kernel_rfl) ?_
          refine e_callf _ _ _ 12 #[] #[] #[.int .i64 a1, .int .i64 a0] #[.int .i64 a1, .int .i64 a0] rfl (by kernel_rfl) (by kernel_rfl) (by kernel_rfl) (enter12 _) (level_Below_calls a1 a0 (memOf _) _ (Inv.start _) _ hy427) ?_
          rintro _ _ ⟨rfl, hI'⟩
          replace hI := hI.call0 hI'
          clear hI'
          refine ⟨_, rfl, ?_⟩
          replace H := cond_some H
          rcases H with ⟨hc428, H⟩ | ⟨hc428, H⟩
          · refine o_batch 14 [] [.p, .c true, .p, .p, .p, .p, .p] [(41, .bool y426), (42, .bool true), (43, .int .i64 a0), (44, .int .i64 a1), (45, .bool (a0 != a1)), (46, .bool (a0 != a1)), (47, .bool (a0 != a1))] [((bif y426 == true then 0 else -1), 1)] trivial ⟨(bndEq hc428), trivial⟩ (by kernel_rfl) (by kernel_rfl) (by kernel_rfl) ?_
            refine r_out (by kernel_rfl) ?_
            exact hJ42 (a0 != a1) _ _ ⟨_, at_slots _ (by kernel_rfl), hI⟩ H
          · refine o_batch 14 [] [.p, .c false, .p, .p, .p, .p, .p] [(41, .bool y426), (42, .bool false), (43, undef), (44, undef), (45, undef), (46, .bool false), (47, .bool false)] [((bif y426 == false then 0 else -1), 1)] trivial ⟨(bndEq hc428), trivial⟩ (by kernel_rfl) (by kernel_rfl) (by kernel_rfl) ?_
            refine r_out (by kernel_rfl) ?_
            exact hJ42 false _ _ ⟨_, at_slots _ (by kernel_rfl), hI⟩ H
      · refine o_batch 0 [] [.p, .c false, .p, .p, .p, .p, .p, .p, .p, .p, .c false, .p, .p, .p, .p, .p, .p, .p, .p, .p, .p] [(27, .bool y15), (28, .bool false), (29, undef), (30, .bool false), (31, .bool false), (32, undef), (33, undef), (34, .bool false), (35, .bool false), (36, .bool y15), (37, .bool false), (38, undef), (39, undef), (40, undef), (41, .bool false), (42, .bool false), (43, undef), (44, undef), (45, undef), (46, .bool false), (47, .bool false)] [((bif y15 == false then 0 else -1), 1), ((bif y15 == false then 0 else -1), 1)] trivial ⟨(bndEq hc420), (bndEq hc420), trivial⟩ (by kernel_rfl) (by kernel_rfl) (by kernel_rfl) ?_
        refine r_out (by kernel_rfl) ?_
        exact hJ42 false _ _ ⟨_, at_slots _ (by kernel_rfl), hI⟩ H

/-! ### level.Under -/
theorem enter16 (a : Array Value) : Sem.pureRun Try.prog (callFunc 16 a) = some (.enter 16 a) := by kernel_rfl
theorem level_Under_calls (A0z : Option Addr) (c0z : Nat) (a0 : List Bool) (M : Mem) (w : World) (hI : Inv M w []) (hr0z : rdS tBool M.blk A0z a0) (hl0z : a0.length ≤ c0z) (r : List Bool) (H : level_Under a0 = some r) :
    Calls Try.prog 16 #[.slice A0z a0.length c0z] w fun e w' => ∃ (A324 : Option Addr) (c325 : Nat), e = .returned (.slice A324 r.length c325) ∧ Inv M w' [.row tBool 4 A324 r.length c325 r] := by
  refine calls_go (updL (fun _ => undef) [(0, .slice A0z a0.length c0z)]) Try.func16 rfl (by kernel_rfl) ?_
  intro cs
  unfold level_Under at H
  refine go_seq ?_
  refine r_in ?_
  refine o_batch 0 [] [.p] [(2, .slice none 0 0)] [] trivial trivial (by kernel_rfl) (by kernel_rfl) (by kernel_rfl) ?_
  refine r_out (by kernel_rfl) ?_
  refine go_seq ?_
  refine go_seq ?_
  refine r_in ?_
  refine o_batch 0 [] [.p, .p, .p] [(9, .slice A0z a0.length c0z), (10, .int .i64 (a0.length : Int)), (11, .bool ((a0.length : Int) != 9))] [] trivial trivial (by kernel_rfl) (by kernel_rfl) (by kernel_rfl) ?_
  refine r_out (by kernel_rfl) ?_
  replace H := cond_some H
  rcases H with ⟨hc2, H⟩ | ⟨hc2, H⟩
  · refine go_then' (t := ((a0.length : Int) != 9)) (by kernel_rfl) hc2 ?_
    refine go_seq ?_
    refine r_in ?_
    refine o_batch 0 [] [.p] [(2, .slice none 0 0)] [] trivial trivial (by kernel_rfl) (by kernel_rfl) (by kernel_rfl) ?_
    refine r_out (by kernel_rfl) ?_
    replace H := Option.some.inj H
    subst H
    exact go_return (.slice none 0 0) Try.func16 (by kernel_rfl) ⟨none, 0, rfl, (hI.nilrow tBool 4)⟩
  · refine go_else' (t := ((a0.length : Int) != 9)) (by kernel_rfl) hc2 ?_
    refine go_skip ?_
    refine go_seq ?_
    refine r_in ?_
    refine o_batch 0 [] [.p] [(3, .int .u16 0)] [] trivial trivial (by kernel_rfl) (by kernel_rfl) (by kernel_rfl) ?_
    refine r_out (by kernel_rfl) ?_
    refine go_seq ?_
    refine go_seq ?_
    refine r_in ?_
    refine o_batch 0 [] [.p, .p, .p] [(12, .slice A0z a0.length c0z), (13, .int .i64 (a0.length : Int)), (14, .int .i64 0)] [] trivial trivial (by kernel_rfl) (by kernel_rfl) (by kernel_rfl) ?_
    refine r_out (by kernel_rfl) ?_
    refine go_block ?_
    refine go_iter (level_Under.s1 a0) (fun (x109, x110) f w => ∃ (j : Nat → Value), f = updL j [(0, .slice A0z a0.length c0z), (3, .int .u16 x109), (12, .slice A0z a0.length c0z), (13, .int .i64 (a0.length : Int)), (14, .int .i64 x110)] ∧ Inv M w []) H ⟨_, at_slots _ (by kernel_rfl), hI⟩ ?_
    clear H hI
    rintro ⟨x109, x110⟩ _ _ o1 H ⟨_, rfl, hI⟩ hin1 hout1
    refine go_seq ?_
    refine r_in ?_
    refine o_batch 0 [] [.p] [(15, .bool (decide (x110 < (a0.length : Int))))] [] trivial trivial (by kernel_rfl) (by kernel_rfl) (by kernel_rfl) ?_
    refine r_out (by kernel_rfl) ?_
    refine go_seq ?_
    replace H := cond_some H
    rcases H with ⟨hc112, H⟩ | ⟨hc112, H⟩
    · refine go_then' (t := decide (x110 < (a0.length : Int))) (by kernel_rfl) hc112 ?_
      refine go_skip ?_
      refine go_seq ?_
      refine go_block_join (o := o1) (fun x128 f w => ∃ (j : Nat → Value), f = updL j [(0, .slice A0z a0.length c0z), (3, .int .u16 x128), (12, .slice A0z a0.length c0z), (13, .int .i64 (a0.length : Int)), (14, .int .i64 x110)] ∧ Inv M w []) (fun x128 => level_Under.j2 x110 x128) ?_ (fun hJ129 => ?_)
      · clear H hI
        rintro x128 _ _ ⟨_, rfl, hI⟩ H
        refine r_in ?_
        refine o_batch 0 [] [.p, .p] [(28, .int .i64 (w64 (x110 + 1))), (14, .int .i64 (w64 (x110 + 1)))] [] trivial trivial (by kernel_rfl) (by kernel_rfl) (by kernel_rfl) ?_
        refine r_out (by kernel_rfl) ?_
        exact hin1 _ (Option.some.inj H).symm _ _ ⟨_, at_slots _ (by kernel_rfl), hI⟩
      · refine go_seq ?_
        refine r_in ?_
        replace H := must_some H
        obtain ⟨g133, H⟩ := H
        obtain ⟨b134, q135, rfl, _⟩ := rdS.fopen hr0z rfl g133
        refine o_batch 0 [(b134, q135 + x110.toNat * 1, [.bool (idx a0 x110)])] [.p, .x, .l 0 0, .p, .p] [(16, .int .i64 x110), (17, .pointer (some ⟨b134, q135 + x110.toNat * 1, none⟩)), (18, .bool (idx a0 x110)), (4, .int .i64 x110), (5, .bool (idx a0 x110))] [(x110, a0.length)] ⟨(hI.lies (rdS.flook hr0z rfl g133)), trivial⟩ ⟨g133, trivial⟩ (by kernel_rfl) (by kernel_rfl) (by kernel_rfl) ?_
        refine r_out (by kernel_rfl) ?_
        refine go_seq_join (o := o1) (fun b137 f w => ∃ (j : Nat → Value), f = updL j [(0, .slice (some ⟨b134, q135, none⟩) a0.length c0z), (3, .int .u16 x109), (4, .int .i64 x110), (12, .slice (some ⟨b134, q135, none⟩) a0.length c0z), (13, .int .i64 (a0.length : Int)), (14, .int .i64 x110), (23, .bool b137)] ∧ Inv M w []) (fun b137 => level_Under.j3 x109 x110 b137) ?_ (fun hJ138 => ?_)
        · clear H hI
          rintro b137 _ _ ⟨_, rfl, hI⟩ H
          replace H := cond_some H
          rcases H with ⟨hc139, H⟩ | ⟨hc139, H⟩
          · refine go_then' (t := b137) (by kernel_rfl) hc139 ?_
            refine r_in ?_
            replace H := must_some H
            obtain ⟨g140, H⟩ := H
            refine o_batch 0 [] [.p, .p, .x, .p, .p] [(24, .int .u16 x109), (25, .int .i64 x110), (26, .int .u16 (sShl .u16 1 x110)), (27, .int .u16 (bOr .u16 x109 (sShl .u16 1 x110))), (3, .int .u16 (bOr .u16 x109 (sShl .u16 1 x110)))] [(x110, far)] trivial ⟨g140, trivial⟩ (by kernel_rfl) (by kernel_rfl) (by kernel_rfl) ?_
            refine r_out (by kernel_rfl) ?_
            refine go_inBlock ?_
            exact hJ129 (bOr .u16 x109 (sShl .u16 1 x110)) _ _ ⟨_, at_slots _ (by kernel_rfl), hI⟩ H
          · refine go_else' (t := b137) (by kernel_rfl) hc139 ?_
            refine go_skip ?_
            refine go_inBlock ?_
            exact hJ129 x109 _ _ ⟨_, at_slots _ (by kernel_rfl), hI⟩ H
        · refine r_in ?_
          replace H := cond_some H
          rcases H with ⟨hc141, H⟩ | ⟨hc141, H⟩
          · refine o_batch 0 [] [.p, .c true, .p, .p, .p] [(19, .bool (idx a0 x110)), (20, .bool true), (21, .int .i64 x110), (22, .bool (decide (x110 > 0))), (23, .bool (decide (x110 > 0)))] [((bif (idx a0 x110) == true then 0 else -1), 1)] trivial ⟨(bndEq hc141), trivial⟩ (by kernel_rfl) (by kernel_rfl) (by kernel_rfl) ?_
            refine r_out (by kernel_rfl) ?_
            exact hJ138 (decide (x110 > 0)) _ _ ⟨_, at_slots _ (by kernel_rfl), hI⟩ H
          · refine o_batch 0 [] [.p, .c false, .p, .p, .p] [(19, .bool (idx a0 x110)), (20, .bool false), (21, undef), (22, undef), (23, .bool false)] [((bif (idx a0 x110) == false then 0 else -1), 1)] trivial ⟨(bndEq hc141), trivial⟩ (by kernel_rfl) (by kernel_rfl) (by kernel_rfl) ?_
            refine r_out (by kernel_rfl) ?_
            exact hJ138 false _ _ ⟨_, at_slots _ (by kernel_rfl), hI⟩ H
    · refine go_else' (t := decide (x110 < (a0.length : Int))) (by kernel_rfl) hc112 ?_
      refine go_exit rfl ?_
      refine go_seq ?_
      refine r_in ?_
      refine o_batch 0 [] [.p, .p] [(29, .slice A0z a0.length c0z), (30, .int .i64 (a0.length : Int))] [] trivial trivial (by kernel_rfl) (by kernel_rfl) (by kernel_rfl) ?_
      replace H := must_some H
      obtain ⟨g144, H⟩ := H
      refine o_eff 2 _ rfl (by kernel_rfl) ?_
      refine e_make tBool (default : Bool) 34 4 _ _ _ (.bool false) (a0.length : Int) rfl rfl rfl rfl rfl rfl (fun _ => rfl) (by kernel_rfl) (by kernel_rfl) g144 hI ?_
      clear hI
      intro b145 _ hI
      refine o_batch 3 [] [.p] [(6, .slice (some ⟨b145, 0, none⟩) ((a0.length : Int).toNat) ((a0.length : Int).toNat))] [] trivial trivial (by kernel_rfl) (by kernel_rfl) (by kernel_rfl) ?_
      refine r_out (by kernel_rfl) ?_
      refine go_seq ?_
      refine go_seq ?_
      refine r_in ?_
      replace H := bind_some H
      obtain ⟨y201, hy202, H⟩ := H
      refine o_is 6 (.slice (some ⟨b145, 0, none⟩) ((a0.length : Int).toNat) ((a0.length : Int).toNat)) (.slice (some ⟨b145, 0, none⟩) ((List.replicate (a0.length : Int).toNat (default : Bool)).length) ((a0.length : Int).toNat)) (by kernel_rfl) (by first | rfl | simp only [List.length_set, List.length_replicate, List.length_nil]) ?_
      refine o_is 31 (.slice (some ⟨b145, 0, none⟩) ((a0.length : Int).toNat) ((a0.length : Int).toNat)) (.slice (some ⟨b145, 0, none⟩) ((List.replicate (a0.length : Int).toNat (default : Bool)).length) ((a0.length : Int).toNat)) (by kernel_rfl) (by first | rfl | simp only [List.length_set, List.length_replicate, List.length_nil]) ?_
      replace hI := hI.renum 0 rfl
      refine o_eff 0 _ rfl (by kernel_rfl) ?_
      refine e_callf _ _ _ 24 #[] #[] #[] #[] rfl (by kernel_rfl) (by kernel_rfl) (by kernel_rfl) (enter24 _) (level_below_calls (memOf _) _ (Inv.start _) _ hy202) ?_
      rintro _ _ ⟨rfl, hI'⟩
      replace hI := hI.call0 hI'
      clear hI'
      refine ⟨_, rfl, ?_⟩
      refine o_batch 1 [] [.p] [(33, .int .i64 0)] [] trivial trivial (by kernel_rfl) (by kernel_rfl) (by kernel_rfl) ?_
      refine r_out (by kernel_rfl) ?_
      refine go_block ?_
      refine go_iter (level_Under.s4 x109 y201) (fun (l291, x294) f w => ∃ (j : Nat → Value) (A292 : Option Addr) (c293 : Nat), f = updL j [(3, .int .u16 x109), (6, .slice A292 l291.length c293), (32, .agg #[.int .u16 (idx y201 (0 : Int)), .int .u16 (idx y201 (1 : Int)), .int .u16 (idx y201 (2 : Int)), .int .u16 (idx y201 (3 : Int)), .int .u16 (idx y201 (4 : Int)), .int .u16 (idx y201 (5 : Int)), .int .u16 (idx y201 (6 : Int)), .int .u16 (idx y201 (7 : Int)), .int .u16 (idx y201 (8 : Int))]), (33, .int .i64 x294)] ∧ Inv M w [.row tBool 4 A292 l291.length c293 l291]) H ⟨_, (some ⟨b145, 0, none⟩), (a0.length : Int).toNat, at_slots _ (by kernel_rfl), hI⟩ ?_
      clear H hI
      rintro ⟨l291, x294⟩ _ _ o2 H ⟨_, A292, c293, rfl, hI⟩ hin2 hout2
      refine go_seq ?_
      refine r_in ?_
      refine o_batch 0 [] [.p] [(34, .bool (decide (x294 < 9)))] [] trivial trivial (by kernel_rfl) (by kernel_rfl) (by kernel_rfl) ?_
      refine r_out (by kernel_rfl) ?_
      refine go_seq ?_
      replace H := cond_some H
      rcases H with ⟨hc296, H⟩ | ⟨hc296, H⟩
      · refine go_then' (t := decide (x294 < 9)) (by kernel_rfl) hc296 ?_
        refine go_skip ?_
        refine go_seq ?_
        refine go_block_join (o := o2) (fun l312 f w => ∃ (j : Nat → Value) (A313 : Option Addr) (c314 : Nat), f = updL j [(3, .int .u16 x109), (6, .slice A313 l312.length c314), (32, .agg #[.int .u16 (idx y201 (0 : Int)), .int .u16 (idx y201 (1 : Int)), .int .u16 (idx y201 (2 : Int)), .int .u16 (idx y201 (3 : Int)), .int .u16 (idx y201 (4 : Int)), .int .u16 (idx y201 (5 : Int)), .int .u16 (idx y201 (6 : Int)), .int .u16 (idx y201 (7 : Int)), .int .u16 (idx y201 (8 : Int))]), (33, .int .i64 x294)] ∧ Inv M w [.row tBool 4 A313 l312.length c314 l312]) (fun l312 => level_Under.j5 x294 l312) ?_ (fun hJ315 => ?_)
        · clear H hI
          rintro l312 _ _ ⟨_, A313, c314, rfl, hI⟩ H
          refine r_in ?_
          refine o_batch 0 [] [.p, .p] [(48, .int .i64 (w64 (x294 + 1))), (33, .int .i64 (w64 (x294 + 1)))] [] trivial trivial (by kernel_rfl) (by kernel_rfl) (by kernel_rfl) ?_
          refine r_out (by kernel_rfl) ?_
          exact hin2 _ (Option.some.inj H).symm _ _ ⟨_, A313, c314, at_slots _ (by kernel_rfl), hI⟩
        · refine go_seq ?_
          refine r_in ?_
          refine o_batch 0 [] [.p] [(35, .int .i64 x294)] [] trivial trivial (by kernel_rfl) (by kernel_rfl) (by kernel_rfl) ?_
          replace H := must_some H
          obtain ⟨g317, H⟩ := H
          refine o_eff 1 _ rfl (by kernel_rfl) ?_
          refine e_index (fun x : Int => .int .u16 x) 42 41 _ _ 9 _ ([idx y201 (0 : Int), idx y201 (1 : Int), idx y201 (2 : Int), idx y201 (3 : Int), idx y201 (4 : Int), idx y201 (5 : Int), idx y201 (6 : Int), idx y201 (7 : Int), idx y201 (8 : Int)] : List Int) .i64 x294 rfl (by kernel_rfl) (by kernel_rfl) (by kernel_rfl) (by kernel_rfl) (by kernel_rfl) rfl (by kernel_rfl) g317 ?_
          refine o_batch 2 [] [.p, .p] [(7, .int .i64 x294), (8, .int .u16 (idx ([idx y201 (0 : Int), idx y201 (1 : Int), idx y201 (2 : Int), idx y201 (3 : Int), idx y201 (4 : Int), idx y201 (5 : Int), idx y201 (6 : Int), idx y201 (7 : Int), idx y201 (8 : Int)] : List Int) x294))] [] trivial trivial (by kernel_rfl) (by kernel_rfl) (by kernel_rfl) ?_
          refine r_out (by kernel_rfl) ?_
          refine r_in ?_
          replace H := cond_some H
          rcases H with ⟨hc318, H⟩ | ⟨hc318, H⟩
          · replace H := must_some H
            obtain ⟨g319, H⟩ := H
            obtain ⟨b320, rfl⟩ := hI.rowAt 0 rfl g319
            refine o_batch 0 [] [.p, .p, .p, .p, .c true, .p, .p, .p, .p, .p, .x] [(37, .slice (some ⟨b320, 0, none⟩) l291.length c293), (38, .int .i64 x294), (39, .int .i64 x294), (40, .bool (decide (x294 > 0))), (41, .bool true), (42, .int .u16 (idx ([idx y201 (0 : Int), idx y201 (1 : Int), idx y201 (2 : Int), idx y201 (3 : Int), idx y201 (4 : Int), idx y201 (5 : Int), idx y201 (6 : Int), idx y201 (7 : Int), idx y201 (8 : Int)] : List Int) x294)), (43, .int .u16 x109), (44, .int .u16 (bAnd .u16 (idx ([idx y201 (0 : Int), idx y201 (1 : Int), idx y201 (2 : Int), idx y201 (3 : Int), idx y201 (4 : Int), idx y201 (5 : Int), idx y201 (6 : Int), idx y201 (7 : Int), idx y201 (8 : Int)] : List Int) x294) x109)), (45, .bool (bAnd .u16 (idx ([idx y201 (0 : Int), idx y201 (1 : Int), idx y201 (2 : Int), idx y201 (3 : Int), idx y201 (4 : Int), idx y201 (5 : Int), idx y201 (6 : Int), idx y201 (7 : Int), idx y201 (8 : Int)] : List Int) x294) x109 != 0)), (46, .bool (bAnd .u16 (idx ([idx y201 (0 : Int), idx y201 (1 : Int), idx y201 (2 : Int), idx y201 (3 : Int), idx y201 (4 : Int), idx y201 (5 : Int), idx y201 (6 : Int), idx y201 (7 : Int), idx y201 (8 : Int)] : List Int) x294) x109 != 0)), (47, .pointer (some ⟨b320, 0 + x294.toNat * 1, none⟩))] [((bif (decide (x294 > 0)) == true then 0 else -1), 1), (x294, l291.length)] trivial ⟨(bndEq hc318), g319, trivial⟩ (by kernel_rfl) (by kernel_rfl) (by kernel_rfl) ?_
            refine o_eff 11 _ rfl (by kernel_rfl) ?_
            refine e_put 4 _ _ 0 b320 4 l291.length c293 l291 (bAnd .u16 (idx ([idx y201 (0 : Int), idx y201 (1 : Int), idx y201 (2 : Int), idx y201 (3 : Int), idx y201 (4 : Int), idx y201 (5 : Int), idx y201 (6 : Int), idx y201 (7 : Int), idx y201 (8 : Int)] : List Int) x294) x109 != 0) x294 0 (.bool (bAnd .u16 (idx ([idx y201 (0 : Int), idx y201 (1 : Int), idx y201 (2 : Int), idx y201 (3 : Int), idx y201 (4 : Int), idx y201 (5 : Int), idx y201 (6 : Int), idx y201 (7 : Int), idx y201 (8 : Int)] : List Int) x294) x109 != 0)) rfl (by kernel_rfl) (by kernel_rfl) (by kernel_rfl) (by kernel_rfl) hI rfl g319 (by kernel_rfl) (by kernel_rfl) ?_
            clear hI
            intro _ hI
            refine r_out (by kernel_rfl) ?_
            refine go_inBlock ?_
            refine go_is 6 (.slice (some ⟨b320, 0, none⟩) l291.length c293) (.slice (some ⟨b320, 0, none⟩) ((l291.set x294.toNat (bAnd .u16 (idx ([idx y201 (0 : Int), idx y201 (1 : Int), idx y201 (2 : Int), idx y201 (3 : Int), idx y201 (4 : Int), idx y201 (5 : Int), idx y201 (6 : Int), idx y201 (7 : Int), idx y201 (8 : Int)] : List Int) x294) x109 != 0)).length) c293) (by kernel_rfl) (by first | rfl | simp only [List.length_set, List.length_replicate, List.length_nil]) ?_
            replace hI := hI.renum 0 rfl
            exact hJ315 (l291.set x294.toNat (bAnd .u16 (idx ([idx y201 (0 : Int), idx y201 (1 : Int), idx y201 (2 : Int), idx y201 (3 : Int), idx y201 (4 : Int), idx y201 (5 : Int), idx y201 (6 : Int), idx y201 (7 : Int), idx y201 (8 : Int)] : List Int) x294) x109 != 0)) _ _ ⟨_, (some ⟨b320, 0, none⟩), c293, at_slots _ (by kernel_rfl), hI⟩ H
          · replace H := must_some H
            obtain ⟨g321, H⟩ := H
            obtain ⟨b322, rfl⟩ := hI.rowAt 0 rfl g321
            refine o_batch 0 [] [.p, .p, .p, .p, .c false, .p, .p, .p, .p, .p, .x] [(37, .slice (some ⟨b322, 0, none⟩) l291.length c293), (38, .int .i64 x294), (39, .int .i64 x294), (40, .bool (decide (x294 > 0))), (41, .bool false), (42, undef), (43, undef), (44, undef), (45, undef), (46, .bool false), (47, .pointer (some ⟨b322, 0 + x294.toNat * 1, none⟩))] [((bif (decide (x294 > 0)) == false then 0 else -1), 1), (x294, l291.length)] trivial ⟨(bndEq hc318), g321, trivial⟩ (by kernel_rfl) (by kernel_rfl) (by kernel_rfl) ?_
            refine o_eff 11 _ rfl (by kernel_rfl) ?_
            refine e_put 4 _ _ 0 b322 4 l291.length c293 l291 false x294 0 (.bool false) rfl (by kernel_rfl) (by kernel_rfl) (by kernel_rfl) (by kernel_rfl) hI rfl g321 (by kernel_rfl) (by kernel_rfl) ?_
            clear hI
            intro _ hI
            refine r_out (by kernel_rfl) ?_
            refine go_inBlock ?_
            refine go_is 6 (.slice (some ⟨b322, 0, none⟩) l291.length c293) (.slice (some ⟨b322, 0, none⟩) ((l291.set x294.toNat false).length) c293) (by kernel_rfl) (by first | rfl | simp only [List.length_set, List.length_replicate, List.length_nil]) ?_
            replace hI := hI.renum 0 rfl
            exact hJ315 (l291.set x294.toNat false) _ _ ⟨_, (some ⟨b322, 0, none⟩), c293, at_slots _ (by kernel_rfl), hI⟩ H
      · refine go_else' (t := decide (x294 < 9)) (by kernel_rfl) hc296 ?_
        refine go_exit rfl ?_
        refine go_seq ?_
        refine r_in ?_
        refine o_batch 0 [] [.p, .p] [(49, .slice A292 l291.length c293), (2, .slice A292 l291.length c293)] [] trivial trivial (by kernel_rfl) (by kernel_rfl) (by kernel_rfl) ?_
        refine r_out (by kernel_rfl) ?_
        replace H := out_some H
        obtain ⟨_, H, he2⟩ := H
        have he := (hout2 _ he2).symm
        subst he
        replace H := out_some H
        obtain ⟨_, H, he1⟩ := H
        have he := (hout1 _ he1).symm
        subst he
        replace H := Option.some.inj H
        subst H
        exact go_return (.slice A292 l291.length c293) Try.func16 (by kernel_rfl) ⟨A292, c293, rfl, hI⟩

/-! ### assizeref13.Under -/
theorem enter17 (a : Array Value) : Sem.pureRun Try.prog (callFunc 17 a) = some (.enter 17 a) := by kernel_rfl
theorem assizeref13zUnder_calls (A0z : Option Addr) (c0z : Nat) (a0 : List Bool) (M : Mem) (w : World) (hI : Inv M w []) (hr0z : rdS tBool M.blk A0z a0) (hl0z : a0.length ≤ c0z) (r : List Bool) (H : assizeref13zUnder a0 = some r) :
    Calls Try.prog 17 #[.slice A0z a0.length c0z] w fun e w' => ∃ (A863 : Option Addr) (c864 : Nat), e = .returned (.slice A863 r.length c864) ∧ Inv M w' [.row tBool 4 A863 r.length c864 r] := by
  refine calls_go (updL (fun _ => undef) [(0, .slice A0z a0.length c0z)]) Try.func17 rfl (by kernel_rfl) ?_
  intro cs
  unfold assizeref13zUnder at H
  refine go_seq ?_
  refine r_in ?_
  refine o_batch 0 [] [.p] [(2, .slice none 0 0)] [] trivial trivial (by kernel_rfl) (by kernel_rfl) (by kernel_rfl) ?_
  refine r_out (by kernel_rfl) ?_
  refine go_seq ?_
  refine go_seq ?_
  refine r_in ?_
  refine o_batch 0 [] [.p, .p, .p] [(6, .slice A0z a0.length c0z), (7, .int .i64 (a0.length : Int)), (8, .bool ((a0.length : Int) != 9))] [] trivial trivial (by kernel_rfl) (by kernel_rfl) (by kernel_rfl) ?_
  refine r_out (by kernel_rfl) ?_
  replace H := cond_some H
  rcases H with ⟨hc2, H⟩ | ⟨hc2, H⟩
  · refine go_then' (t := ((a0.length : Int) != 9)) (by kernel_rfl) hc2 ?_
    refine go_seq ?_
    refine r_in ?_
    refine o_batch 0 [] [.p] [(2, .slice none 0 0)] [] trivial trivial (by kernel_rfl) (by kernel_rfl) (by kernel_rfl) ?_
    refine r_out (by kernel_rfl) ?_
    replace H := Option.some.inj H
    subst H
    exact go_return (.slice none 0 0) Try.func17 (by kernel_rfl) ⟨none, 0, rfl, (hI.nilrow tBool 4)⟩
  · refine go_else' (t := ((a0.length : Int) != 9)) (by kernel_rfl) hc2 ?_
    refine go_skip ?_
    refine go_seq ?_
    refine r_in ?_
    replace H := must_some H
    obtain ⟨g5, H⟩ := H
    refine o_eff 0 _ rfl (by kernel_rfl) ?_
    refine e_make tBool (default : Bool) 34 4 _ _ _ (.bool false) (9 : Int) rfl rfl rfl rfl rfl rfl (fun _ => rfl) (by kernel_rfl) (by kernel_rfl) g5 hI ?_
    clear hI
    intro b6 _ hI
    refine o_batch 1 [] [.p] [(3, .slice (some ⟨b6, 0, none⟩) ((9 : Int).toNat) ((9 : Int).toNat))] [] trivial trivial (by kernel_rfl) (by kernel_rfl) (by kernel_rfl) ?_
    refine r_out (by kernel_rfl) ?_
    refine go_seq ?_
    refine go_seq ?_
    refine r_in ?_
    refine o_batch 0 [] [.p] [(4, .int .i64 1)] [] trivial trivial (by kernel_rfl) (by kernel_rfl) (by kernel_rfl) ?_
    refine r_out (by kernel_rfl) ?_
    refine go_block ?_
    refine go_is 3 (.slice (some ⟨b6, 0, none⟩) ((9 : Int).toNat) ((9 : Int).toNat)) (.slice (some ⟨b6, 0, none⟩) ((List.replicate (9 : Int).toNat (default : Bool)).length) ((9 : Int).toNat)) (by kernel_rfl) (by first | rfl | simp only [List.length_set, List.length_replicate, List.length_nil]) ?_
    replace hI := hI.renum 0 rfl
    refine go_iter (assizeref13zUnder.s1 a0) (fun (l581, x584) f w => ∃ (j : Nat → Value) (A582 : Option Addr) (c583 : Nat), f = updL j [(0, .slice A0z a0.length c0z), (3, .slice A582 l581.length c583), (4, .int .i64 x584)] ∧ Inv M w [.row tBool 4 A582 l581.length c583 l581]) H ⟨_, (some ⟨b6, 0, none⟩), (9 : Int).toNat, at_slots _ (by kernel_rfl), hI⟩ ?_
    clear H hI
    rintro ⟨l581, x584⟩ _ _ o1 H ⟨_, A582, c583, rfl, hI⟩ hin1 hout1
    refine go_seq ?_
    refine go_seq ?_
    refine r_in ?_
    refine o_batch 0 [] [.p, .p] [(10, .int .i64 x584), (11, .bool (decide (x584 ≤ 8)))] [] trivial trivial (by kernel_rfl) (by kernel_rfl) (by kernel_rfl) ?_
    refine r_out (by kernel_rfl) ?_
    replace H := cond_some H
    rcases H with ⟨hc586, H⟩ | ⟨hc586, H⟩
    · refine go_then' (t := decide (x584 ≤ 8)) (by kernel_rfl) hc586 ?_
      refine go_skip ?_
      refine go_seq ?_
      refine go_block ?_
      refine go_seq ?_
      refine r_in ?_
      refine o_batch 0 [] [.p] [(5, .int .i64 1)] [] trivial trivial (by kernel_rfl) (by kernel_rfl) (by kernel_rfl) ?_
      refine r_out (by kernel_rfl) ?_
      refine go_block ?_
      refine go_iter (assizeref13zUnder.s2 a0 x584) (fun (l822, x825) f w => ∃ (j : Nat → Value) (A823 : Option Addr) (c824 : Nat), f = updL j [(0, .slice A0z a0.length c0z), (3, .slice A823 l822.length c824), (4, .int .i64 x584), (5, .int .i64 x825)] ∧ Inv M w [.row tBool 4 A823 l822.length c824 l822]) H ⟨_, A582, c583, at_slots _ (by kernel_rfl), hI⟩ ?_
      clear H hI
      rintro ⟨l822, x825⟩ _ _ o2 H ⟨_, A823, c824, rfl, hI⟩ hin2 hout2
      refine go_seq ?_
      refine go_seq ?_
      refine r_in ?_
      refine o_batch 0 [] [.p, .p] [(14, .int .i64 x825), (15, .bool (decide (x825 ≤ 8)))] [] trivial trivial (by kernel_rfl) (by kernel_rfl) (by kernel_rfl) ?_
      refine r_out (by kernel_rfl) ?_
      replace H := cond_some H
      rcases H with ⟨hc827, H⟩ | ⟨hc827, H⟩
      · refine go_then' (t := decide (x825 ≤ 8)) (by kernel_rfl) hc827 ?_
        refine go_skip ?_
        refine go_seq ?_
        refine go_block_join (o := o2) (fun l849 f w => ∃ (j : Nat → Value) (A850 : Option Addr) (c851 : Nat), f = updL j [(0, .slice A0z a0.length c0z), (3, .slice A850 l849.length c851), (4, .int .i64 x584), (5, .int .i64 x825)] ∧ Inv M w [.row tBool 4 A850 l849.length c851 l849]) (fun l849 => assizeref13zUnder.j3 x825 l849) ?_ (fun hJ852 => ?_)
        · clear H hI
          rintro l849 _ _ ⟨_, A850, c851, rfl, hI⟩ H
          refine r_in ?_
          refine o_batch 0 [] [.p, .p, .p] [(16, .int .i64 x825), (17, .int .i64 (w64 (x825 + 1))), (5, .int .i64 (w64 (x825 + 1)))] [] trivial trivial (by kernel_rfl) (by kernel_rfl) (by kernel_rfl) ?_
          refine r_out (by kernel_rfl) ?_
          exact hin2 _ (Option.some.inj H).symm _ _ ⟨_, A850, c851, at_slots _ (by kernel_rfl), hI⟩
        · refine r_in ?_
          replace H := must_some H
          obtain ⟨g853, H⟩ := H
          obtain ⟨b854, rfl⟩ := hI.rowAt 0 rfl g853
          replace H := cond_some H
          rcases H with ⟨hc855, H⟩ | ⟨hc855, H⟩
          · refine o_batch 0 [(b854, 0 + x584.toNat * 1, [.bool (idx l822 x584)])] [.p, .p, .p, .p, .x, .l 0 0, .c true, .p, .p, .p, .p, .p, .p, .p, .p, .p, .p, .x] [(18, .slice (some ⟨b854, 0, none⟩) l822.length c824), (19, .int .i64 x584), (20, .slice (some ⟨b854, 0, none⟩) l822.length c824), (21, .int .i64 x584), (22, .pointer (some ⟨b854, 0 + x584.toNat * 1, none⟩)), (23, .bool (idx l822 x584)), (24, .bool true), (25, undef), (26, undef), (27, undef), (28, undef), (29, undef), (30, undef), (31, undef), (32, undef), (33, undef), (34, .bool true), (35, .pointer (some ⟨b854, 0 + x584.toNat * 1, none⟩))] [(x584, l822.length), ((bif (idx l822 x584) == true then 0 else -1), 1), (x584, l822.length)] ⟨(rdS.flook (hI.row 0 rfl) (hI.rowlen 0 rfl) g853).ok, trivial⟩ ⟨g853, (bndEq hc855), g853, trivial⟩ (by kernel_rfl) (by kernel_rfl) (by kernel_rfl) ?_
            refine o_eff 18 _ rfl (by kernel_rfl) ?_
            refine e_put 4 _ _ 0 b854 4 l822.length c824 l822 true x584 0 (.bool true) rfl (by kernel_rfl) (by kernel_rfl) (by kernel_rfl) (by kernel_rfl) hI rfl g853 (by kernel_rfl) (by kernel_rfl) ?_
            clear hI
            intro _ hI
            refine r_out (by kernel_rfl) ?_
            refine go_inBlock ?_
            refine go_is 3 (.slice (some ⟨b854, 0, none⟩) l822.length c824) (.slice (some ⟨b854, 0, none⟩) ((l822.set x584.toNat true).length) c824) (by kernel_rfl) (by first | rfl | simp only [List.length_set, List.length_replicate, List.length_nil]) ?_
            replace hI := hI.renum 0 rfl
            exact hJ852 (l822.set x584.toNat true) _ _ ⟨_, (some ⟨b854, 0, none⟩), c824, at_slots _ (by kernel_rfl), hI⟩ H
          · replace H := must_some H
            obtain ⟨g856, H⟩ := H
            obtain ⟨b857, q858, rfl, _⟩ := rdS.fopen hr0z rfl g856
            replace H := cond_some H
            rcases H with ⟨hc859, H⟩ | ⟨hc859, H⟩
            · refine o_batch 0 [(b854, 0 + x584.toNat * 1, [.bool (idx l822 x584)]), (b857, q858 + x825.toNat * 1, [.bool (idx a0 x825)])] [.p, .p, .p, .p, .x, .l 0 0, .c false, .p, .p, .x, .l 1 0, .c true, .p, .p] [(18, .slice (some ⟨b854, 0, none⟩) l822.length c824), (19, .int .i64 x584), (20, .slice (some ⟨b854, 0, none⟩) l822.length c824), (21, .int .i64 x584), (22, .pointer (some ⟨b854, 0 + x584.toNat * 1, none⟩)), (23, .bool (idx l822 x584)), (24, .bool false), (25, .slice (some ⟨b857, q858, none⟩) a0.length c0z), (26, .int .i64 x825), (27, .pointer (some ⟨b857, q858 + x825.toNat * 1, none⟩)), (28, .bool (idx a0 x825)), (29, .bool true), (30, .int .i64 x584), (31, .int .i64 x825)] [(x584, l822.length), ((bif (idx l822 x584) == false then 0 else -1), 1), (x825, a0.length), ((bif (idx a0 x825) == true then 0 else -1), 1)] ⟨(rdS.flook (hI.row 0 rfl) (hI.rowlen 0 rfl) g853).ok, (hI.lies (rdS.flook hr0z rfl g856)), trivial⟩ ⟨g853, (bndEq hc855), g856, (bndEq hc859), trivial⟩ (by kernel_rfl) (by kernel_rfl) (by kernel_rfl) ?_
              replace H := bind_some H
              obtain ⟨y860, hy861, H⟩ := H
              refine o_eff 14 _ rfl (by kernel_rfl) ?_
              refine e_callf _ _ _ 13 #[] #[] #[.int .i64 x584, .int .i64 x825] #[.int .i64 x584, .int .i64 x825] rfl (by kernel_rfl) (by kernel_rfl) (by kernel_rfl) (enter13 _) (assizeref13zBelow_calls x584 x825 (memOf _) _ (Inv.start _) _ hy861) ?_
              rintro _ _ ⟨rfl, hI'⟩
              replace hI := hI.call0 hI'
              clear hI'
              refine ⟨_, rfl, ?_⟩
              refine o_batch 15 [] [.p, .p, .x] [(33, .bool y860), (34, .bool y860), (35, .pointer (some ⟨b854, 0 + x584.toNat * 1, none⟩))] [(x584, l822.length)] trivial ⟨g853, trivial⟩ (by kernel_rfl) (by kernel_rfl) (by kernel_rfl) ?_
              refine o_eff 18 _ rfl (by kernel_rfl) ?_
              refine e_put 4 _ _ 0 b854 4 l822.length c824 l822 y860 x584 0 (.bool y860) rfl (by kernel_rfl) (by kernel_rfl) (by kernel_rfl) (by kernel_rfl) hI rfl g853 (by kernel_rfl) (by kernel_rfl) ?_
              clear hI
              intro _ hI
              refine r_out (by kernel_rfl) ?_
              refine go_inBlock ?_
              refine go_is 3 (.slice (some ⟨b854, 0, none⟩) l822.length c824) (.slice (some ⟨b854, 0, none⟩) ((l822.set x584.toNat y860).length) c824) (by kernel_rfl) (by first | rfl | simp only [List.length_set, List.length_replicate, List.length_nil]) ?_
              replace hI := hI.renum 0 rfl
              exact hJ852 (l822.set x584.toNat y860) _ _ ⟨_, (some ⟨b854, 0, none⟩), c824, at_slots _ (by kernel_rfl), hI⟩ H
            · refine o_batch 0 [(b854, 0 + x584.toNat * 1, [.bool (idx l822 x584)]), (b857, q858 + x825.toNat * 1, [.bool (idx a0 x825)])] [.p, .p, .p, .p, .x, .l 0 0, .c false, .p, .p, .x, .l 1 0, .c false, .p, .p, .p, .p, .p, .x] [(18, .slice (some ⟨b854, 0, none⟩) l822.length c824), (19, .int .i64 x584), (20, .slice (some ⟨b854, 0, none⟩) l822.length c824), (21, .int .i64 x584), (22, .pointer (some ⟨b854, 0 + x584.toNat * 1, none⟩)), (23, .bool (idx l822 x584)), (24, .bool false), (25, .slice (some ⟨b857, q858, none⟩) a0.length c0z), (26, .int .i64 x825), (27, .pointer (some ⟨b857, q858 + x825.toNat * 1, none⟩)), (28, .bool (idx a0 x825)), (29, .bool false), (30, undef), (31, undef), (32, undef), (33, .bool false), (34, .bool false), (35, .pointer (some ⟨b854, 0 + x584.toNat * 1, none⟩))] [(x584, l822.length), ((bif (idx l822 x584) == false then 0 else -1), 1), (x825, a0.length), ((bif (idx a0 x825) == false then 0 else -1), 1), (x584, l822.length)] ⟨(rdS.flook (hI.row 0 rfl) (hI.rowlen 0 rfl) g853).ok, (hI.lies (rdS.flook hr0z rfl g856)), trivial⟩ ⟨g853, (bndEq hc855), g856, (bndEq hc859), g853, trivial⟩ (by kernel_rfl) (by kernel_rfl) (by kernel_rfl) ?_
              refine o_eff 18 _ rfl (by kernel_rfl) ?_
              refine e_put 4 _ _ 0 b854 4 l822.length c824 l822 false x584 0 (.bool false) rfl (by kernel_rfl) (by kernel_rfl) (by kernel_rfl) (by kernel_rfl) hI rfl g853 (by kernel_rfl) (by kernel_rfl) ?_
              clear hI
              intro _ hI
              refine r_out (by kernel_rfl) ?_
              refine go_inBlock ?_
              refine go_is 3 (.slice (some ⟨b854, 0, none⟩) l822.length c824) (.slice (some ⟨b854, 0, none⟩) ((l822.set x584.toNat false).length) c824) (by kernel_rfl) (by first | rfl | simp only [List.length_set, List.length_replicate, List.length_nil]) ?_
              replace hI := hI.renum 0 rfl
              exact hJ852 (l822.set x584.toNat false) _ _ ⟨_, (some ⟨b854, 0, none⟩), c824, at_slots _ (by kernel_rfl), hI⟩ H
      · refine go_else' (t := decide (x825 ≤ 8)) (by kernel_rfl) hc827 ?_
        refine go_exit rfl ?_
        refine go_inBlock ?_
        refine r_in ?_
        refine o_batch 0 [] [.p, .p, .p] [(12, .int .i64 x584), (13, .int .i64 (w64 (x584 + 1))), (4, .int .i64 (w64 (x584 + 1)))] [] trivial trivial (by kernel_rfl) (by kernel_rfl) (by kernel_rfl) ?_
        refine r_out (by kernel_rfl) ?_
        replace H := out_some H
        obtain ⟨_, H, he2⟩ := H
        have he := (hout2 _ he2).symm
        subst he
        exact hin1 _ (Option.some.inj H).symm _ _ ⟨_, A823, c824, at_slots _ (by kernel_rfl), hI⟩
    · refine go_else' (t := decide (x584 ≤ 8)) (by kernel_rfl) hc586 ?_
      refine go_exit rfl ?_
      refine go_seq ?_
      refine r_in ?_
      refine o_batch 0 [] [.p, .p] [(36, .slice A582 l581.length c583), (2, .slice A582 l581.length c583)] [] trivial trivial (by kernel_rfl) (by kernel_rfl) (by kernel_rfl) ?_
      refine r_out (by kernel_rfl) ?_
      replace H := out_some H
      obtain ⟨_, H, he1⟩ := H
      have he := (hout1 _ he1).symm
      subst he
      replace H := Option.some.inj H
      subst H
      exact go_return (.slice A582 l581.length c583) Try.func17 (by kernel_rfl) ⟨A582, c583, rfl, hI⟩

/-! ### assizeref06.SameBools -/
theorem enter18 (a : Array Value) : Sem.pureRun Try.prog (callFunc 18 a) = some (.enter 18 a) := by kernel_rfl
theorem assizeref06zSameBools_calls (A0z : Option Addr) (c0z : Nat) (a0 : List Bool) (A1z : Option Addr) (c1z : Nat) (a1 : List Bool) (M : Mem) (w : World) (hI : Inv M w []) (hr0z : rdS tBool M.blk A0z a0) (hl0z : a0.length ≤ c0z) (hr1z : rdS tBool M.blk A1z a1) (hl1z : a1.length ≤ c1z) (r : Bool) (H : assizeref06zSameBools a0 a1 = some r) :
    Calls Try.prog 18 #[.slice A0z a0.length c0z, .slice A1z a1.length c1z] w fun e w' => e = .returned (.bool r) ∧ Inv M w' [] := by
  refine calls_go (updL (fun _ => undef) [(0, .slice A0z a0.length c0z), (1, .slice A1z a1.length c1z)]) Try.func18 rfl (by kernel_rfl) ?_
  intro cs
  unfold assizeref06zSameBools at H
  refine go_seq ?_
  refine r_in ?_
  refine o_batch 0 [] [.p] [(4, .bool false)] [] trivial trivial (by kernel_rfl) (by kernel_rfl) (by kernel_rfl) ?_
  refine r_out (by kernel_rfl) ?_
  refine go_seq ?_
  refine go_seq ?_
  refine r_in ?_
  refine o_batch 0 [] [.p, .p, .p, .p, .p] [(6, .slice A0z a0.length c0z), (7, .int .i64 (a0.length : Int)), (8, .slice A1z a1.length c1z), (9, .int .i64 (a1.length : Int)), (10, .bool ((a0.length : Int) != (a1.length : Int)))] [] trivial trivial (by kernel_rfl) (by kernel_rfl) (by kernel_rfl) ?_
  refine r_out (by kernel_rfl) ?_
  replace H := cond_some H
  rcases H with ⟨hc2, H⟩ | ⟨hc2, H⟩
  · refine go_then' (t := ((a0.length : Int) != (a1.length : Int))) (by kernel_rfl) hc2 ?_
    refine go_seq ?_
    refine r_in ?_
    refine o_batch 0 [] [.p] [(4, .bool false)] [] trivial trivial (by kernel_rfl) (by kernel_rfl) (by kernel_rfl) ?_
    refine r_out (by kernel_rfl) ?_
    replace H := Option.some.inj H
    subst H
    exact go_return (.bool false) Try.func18 (by kernel_rfl) ⟨rfl, hI⟩
  · refine go_else' (t := ((a0.length : Int) != (a1.length : Int))) (by kernel_rfl) hc2 ?_
    refine go_skip ?_
    refine go_seq ?_
    refine go_seq ?_
    refine r_in ?_
    refine o_batch 0 [] [.p] [(5, .int .i64 0)] [] trivial trivial (by kernel_rfl) (by kernel_rfl) (by kernel_rfl) ?_
    refine r_out (by kernel_rfl) ?_
    refine go_block ?_
    refine go_iter (assizeref06zSameBools.s1 a0 a1) (fun x84 f w => ∃ (j : Nat → Value), f = updL j [(0, .slice A0z a0.length c0z), (1, .slice A1z a1.length c1z), (5, .int .i64 x84)] ∧ Inv M w []) H ⟨_, at_slots _ (by kernel_rfl), hI⟩ ?_
    clear H hI
    rintro x84 _ _ o1 H ⟨_, rfl, hI⟩ hin1 hout1
    refine go_seq ?_
    refine go_seq ?_
    refine r_in ?_
    refine o_batch 0 [] [.p, .p, .p, .p] [(11, .int .i64 x84), (12, .slice A0z a0.length c0z), (13, .int .i64 (a0.length : Int)), (14, .bool (decide (x84 < (a0.length : Int))))] [] trivial trivial (by kernel_rfl) (by kernel_rfl) (by kernel_rfl) ?_
    refine r_out (by kernel_rfl) ?_
    replace H := cond_some H
    rcases H with ⟨hc86, H⟩ | ⟨hc86, H⟩
    · refine go_then' (t := decide (x84 < (a0.length : Int))) (by kernel_rfl) hc86 ?_
      refine go_skip ?_
      refine go_seq ?_
      refine go_block ?_
      refine go_seq ?_
      replace H := must_some H
      obtain ⟨g107, H⟩ := H
      obtain ⟨b108, q109, rfl, _⟩ := rdS.fopen hr0z rfl g107
      replace H := must_some H
      obtain ⟨g110, H⟩ := H
      obtain ⟨b111, q112, rfl, _⟩ := rdS.fopen hr1z rfl g110
      refine d_still [(b108, q109 + x84.toNat * 1, [.bool (idx a0 x84)]), (b111, q112 + x84.toNat * 1, [.bool (idx a1 x84)])] [.p, .p, .x, .l 0 0, .p, .p, .x, .l 1 0, .p] [(17, .slice (some ⟨b108, q109, none⟩) a0.length c0z), (18, .int .i64 x84), (19, .pointer (some ⟨b108, q109 + x84.toNat * 1, none⟩)), (20, .bool (idx a0 x84)), (21, .slice (some ⟨b111, q112, none⟩) a1.length c1z), (22, .int .i64 x84), (23, .pointer (some ⟨b111, q112 + x84.toNat * 1, none⟩)), (24, .bool (idx a1 x84)), (25, .bool (idx a0 x84 != idx a1 x84))] [(x84, a0.length), (x84, a1.length)] (by kernel_rfl) (by kernel_rfl) rfl ⟨(hI.lies (rdS.flook hr0z rfl g107)), (hI.lies (rdS.flook hr1z rfl g110)), trivial⟩ ⟨g107, g110, trivial⟩ (by kernel_rfl) (by kernel_rfl) (by kernel_rfl) hI ?_
      clear hI
      intro _ hI
      replace H := cond_some H
      rcases H with ⟨hc113, H⟩ | ⟨hc113, H⟩
      · refine go_then' (t := (idx a0 x84 != idx a1 x84)) (by kernel_rfl) hc113 ?_
        refine go_seq ?_
        refine r_in ?_
        refine o_batch 0 [] [.p] [(4, .bool false)] [] trivial trivial (by kernel_rfl) (by kernel_rfl) (by kernel_rfl) ?_
        refine r_out (by kernel_rfl) ?_
        replace H := out_some H
        obtain ⟨_, H, he1⟩ := H
        have he := (hout1 _ he1).symm
        subst he
        replace H := Option.some.inj H
        subst H
        exact go_return (.bool false) Try.func18 (by kernel_rfl) ⟨rfl, hI⟩
      · refine go_else' (t := (idx a0 x84 != idx a1 x84)) (by kernel_rfl) hc113 ?_
        refine go_skip ?_
        refine go_inBlock ?_
        refine r_in ?_
        refine o_batch 0 [] [.p, .p, .p] [(15, .int .i64 x84), (16, .int .i64 (w64 (x84 + 1))), (5, .int .i64 (w64 (x84 + 1)))] [] trivial trivial (by kernel_rfl) (by kernel_rfl) (by kernel_rfl) ?_
        refine r_out (by kernel_rfl) ?_
        exact hin1 _ (Option.some.inj H).symm _ _ ⟨_, at_slots _ (by kernel_rfl), hI⟩
    · refine go_else' (t := decide (x84 < (a0.length : Int))) (by kernel_rfl) hc86 ?_
      refine go_exit rfl ?_
      refine go_seq ?_
      refine r_in ?_
      refine o_batch 0 [] [.p] [(4, .bool true)] [] trivial trivial (by kernel_rfl) (by kernel_rfl) (by kernel_rfl) ?_
      refine r_out (by kernel_rfl) ?_
      replace H := out_some H
      obtain ⟨_, H, he1⟩ := H
      have he := (hout1 _ he1).symm
      subst he
      replace H := Option.some.inj H
      subst H
      exact go_return (.bool true) Try.func18 (by kernel_rfl) ⟨rfl, hI⟩

/-! ### level.Closed -/
theorem enter19 (a : Array Value) : Sem.pureRun Try.prog (callFunc 19 a) = some (.enter 19 a) := by kernel_rfl
theorem level_Closed_calls (A0z : Option Addr) (c0z : Nat) (a0 : List Bool) (M : Mem) (w : World) (hI : Inv M w []) (hr0z : rdS tBool M.blk A0z a0) (hl0z : a0.length ≤ c0z) (r : Bool) (H : level_Closed a0 = some r) :
    Calls Try.prog 19 #[.slice A0z a0.length c0z] w fun e w' => e = .returned (.bool r) ∧ Inv M w' [] := by
  refine calls_go (updL (fun _ => undef) [(0, .slice A0z a0.length c0z)]) Try.func19 rfl (by kernel_rfl) ?_
  intro cs
  unfold level_Closed at H
  refine go_seq ?_
  refine r_in ?_
  refine o_batch 0 [] [.p] [(2, .bool false)] [] trivial trivial (by kernel_rfl) (by kernel_rfl) (by kernel_rfl) ?_
  refine r_out (by kernel_rfl) ?_
  refine go_seq ?_
  refine r_in ?_
  refine o_batch 0 [] [.p] [(5, .slice A0z a0.length c0z)] [] trivial trivial (by kernel_rfl) (by kernel_rfl) (by kernel_rfl) ?_
  replace H := bind_some H
  obtain ⟨y5, hy6, H⟩ := H
  refine o_eff 1 _ rfl (by kernel_rfl) ?_
  refine e_callf _ _ _ 16 #[] #[] #[.slice A0z a0.length c0z] #[.slice A0z a0.length c0z] rfl (by kernel_rfl) (by kernel_rfl) (by kernel_rfl) (enter16 _) (level_Under_calls A0z c0z a0 (memOf _) _ (Inv.start _) (hI.rd hr0z) hl0z _ hy6) ?_
  rintro _ _ ⟨A7, c8, rfl, hI'⟩
  replace hI := hI.call0 hI'
  clear hI'
  refine ⟨_, rfl, ?_⟩
  refine o_batch 2 [] [.p] [(3, .slice A7 y5.length c8)] [] trivial trivial (by kernel_rfl) (by kernel_rfl) (by kernel_rfl) ?_
  refine r_out (by kernel_rfl) ?_
  refine go_seq ?_
  refine go_seq ?_
  refine r_in ?_
  refine o_batch 0 [] [.p, .p, .p] [(7, .slice A7 y5.length c8), (8, .int .i64 (y5.length : Int)), (9, .int .i64 0)] [] trivial trivial (by kernel_rfl) (by kernel_rfl) (by kernel_rfl) ?_
  refine r_out (by kernel_rfl) ?_
  refine go_block ?_
  refine go_iter (level_Closed.s1 a0 y5) (fun x98 f w => ∃ (j : Nat → Value), f = updL j [(0, .slice A0z a0.length c0z), (3, .slice A7 y5.length c8), (8, .int .i64 (y5.length : Int)), (9, .int .i64 x98)] ∧ Inv M w [.row tBool 4 A7 y5.length c8 y5]) H ⟨_, at_slots _ (by kernel_rfl), hI⟩ ?_
  clear H hI
  rintro x98 _ _ o1 H ⟨_, rfl, hI⟩ hin1 hout1
  refine go_seq ?_
  refine r_in ?_
  refine o_batch 0 [] [.p] [(10, .bool (decide (x98 < (y5.length : Int))))] [] trivial trivial (by kernel_rfl) (by kernel_rfl) (by kernel_rfl) ?_
  refine r_out (by kernel_rfl) ?_
  refine go_seq ?_
  replace H := cond_some H
  rcases H with ⟨hc100, H⟩ | ⟨hc100, H⟩
  · refine go_then' (t := decide (x98 < (y5.length : Int))) (by kernel_rfl) hc100 ?_
    refine go_skip ?_
    refine go_seq ?_
    refine go_block ?_
    refine go_seq ?_
    refine r_in ?_
    refine o_batch 0 [] [.p, .p] [(11, .int .i64 x98), (4, .int .i64 x98)] [] trivial trivial (by kernel_rfl) (by kernel_rfl) (by kernel_rfl) ?_
    refine r_out (by kernel_rfl) ?_
    refine go_seq_join (o := o1) (fun b123 f w => ∃ (j : Nat → Value), f = updL j [(0, .slice A0z a0.length c0z), (3, .slice A7 y5.length c8), (8, .int .i64 (y5.length : Int)), (9, .int .i64 x98), (24, .bool b123)] ∧ Inv M w [.row tBool 4 A7 y5.length c8 y5]) (fun b123 => level_Closed.j2 x98 b123) ?_ (fun hJ124 => ?_)
    · clear H hI
      rintro b123 _ _ ⟨_, rfl, hI⟩ H
      replace H := cond_some H
      rcases H with ⟨hc125, H⟩ | ⟨hc125, H⟩
      · refine go_then' (t := b123) (by kernel_rfl) hc125 ?_
        refine go_seq ?_
        refine r_in ?_
        refine o_batch 0 [] [.p] [(2, .bool false)] [] trivial trivial (by kernel_rfl) (by kernel_rfl) (by kernel_rfl) ?_
        refine r_out (by kernel_rfl) ?_
        replace H := out_some H
        obtain ⟨_, H, he1⟩ := H
        have he := (hout1 _ he1).symm
        subst he
        replace H := Option.some.inj H
        subst H
        exact go_return (.bool false) Try.func19 (by kernel_rfl) ⟨rfl, hI.pick [] (by decide) rfl⟩
      · refine go_else' (t := b123) (by kernel_rfl) hc125 ?_
        refine go_skip ?_
        refine go_inBlock ?_
        refine r_in ?_
        refine o_batch 0 [] [.p, .p] [(25, .int .i64 (w64 (x98 + 1))), (9, .int .i64 (w64 (x98 + 1)))] [] trivial trivial (by kernel_rfl) (by kernel_rfl) (by kernel_rfl) ?_
        refine r_out (by kernel_rfl) ?_
        exact hin1 _ (Option.some.inj H).symm _ _ ⟨_, at_slots _ (by kernel_rfl), hI⟩
    · replace H := cond_some H
      rcases H with ⟨hc126, H⟩ | ⟨hc126, H⟩
      · replace H := must_some H
        obtain ⟨g127, H⟩ := H
        obtain ⟨b128, rfl⟩ := hI.rowAt 0 rfl g127
        replace H := must_some H
        obtain ⟨g129, H⟩ := H
        obtain ⟨b130, q131, rfl, _⟩ := rdS.fopen hr0z rfl g129
        refine d_still [(b128, 0 + x98.toNat * 1, [.bool (idx y5 x98)]), (b130, q131 + x98.toNat * 1, [.bool (idx a0 x98)])] [.p, .p, .c true, .p, .p, .x, .l 0 0, .p, .p, .x, .l 1 0, .p, .p] [(12, .int .i64 x98), (13, .bool (decide (x98 > 0))), (14, .bool true), (15, .slice (some ⟨b128, 0, none⟩) y5.length c8), (16, .int .i64 x98), (17, .pointer (some ⟨b128, 0 + x98.toNat * 1, none⟩)), (18, .bool (idx y5 x98)), (19, .slice (some ⟨b130, q131, none⟩) a0.length c0z), (20, .int .i64 x98), (21, .pointer (some ⟨b130, q131 + x98.toNat * 1, none⟩)), (22, .bool (idx a0 x98)), (23, .bool (idx y5 x98 != idx a0 x98)), (24, .bool (idx y5 x98 != idx a0 x98))] [((bif (decide (x98 > 0)) == true then 0 else -1), 1), (x98, y5.length), (x98, a0.length)] (by kernel_rfl) (by kernel_rfl) rfl ⟨(rdS.flook (hI.row 0 rfl) (hI.rowlen 0 rfl) g127).ok, (hI.lies (rdS.flook hr0z rfl g129)), trivial⟩ ⟨(bndEq hc126), g127, g129, trivial⟩ (by kernel_rfl) (by kernel_rfl) (by kernel_rfl) hI ?_
        clear hI
        intro _ hI
        exact hJ124 (idx y5 x98 != idx a0 x98) _ _ ⟨_, at_slots _ (by kernel_rfl), hI⟩ H
      · refine d_still [] [.p, .p, .c false, .p, .p, .p, .p, .p, .p, .p, .p, .p, .p] [(12, .int .i64 x98), (13, .bool (decide (x98 > 0))), (14, .bool false), (15, undef), (16, undef), (17, undef), (18, undef), (19, undef), (20, undef), (21, undef), (22, undef), (23, undef), (24, .bool false)] [((bif (decide (x98 > 0)) == false then 0 else -1), 1)] (by kernel_rfl) (by kernel_rfl) rfl trivial ⟨(bndEq hc126), trivial⟩ (by kernel_rfl) (by kernel_rfl) (by kernel_rfl) hI ?_
        clear hI
        intro _ hI
        exact hJ124 false _ _ ⟨_, at_slots _ (by kernel_rfl), hI⟩ H
  · refine go_else' (t := decide (x98 < (y5.length : Int))) (by kernel_rfl) hc100 ?_
    refine go_exit rfl ?_
    refine go_seq ?_
    refine r_in ?_
    refine o_batch 0 [] [.p, .p, .p, .p] [(26, .slice A7 y5.length c8), (27, .int .i64 (y5.length : Int)), (28, .bool (decide ((y5.length : Int) > 0))), (2, .bool (decide ((y5.length : Int) > 0)))] [] trivial trivial (by kernel_rfl) (by kernel_rfl) (by kernel_rfl) ?_
    refine r_out (by kernel_rfl) ?_
    replace H := out_some H
    obtain ⟨_, H, he1⟩ := H
    have he := (hout1 _ he1).symm
    subst he
    replace H := Option.some.inj H
    subst H
    exact go_return (.bool (decide ((y5.length : Int) > 0))) Try.func19 (by kernel_rfl) ⟨rfl, hI.pick [] (by decide) rfl⟩

/-! ### assizeref13.Closed -/
theorem enter20 (a : Array Value) : Sem.pureRun Try.prog (callFunc 20 a) = some (.enter 20 a) := by kernel_rfl
theorem assizeref13zClosed_calls (A0z : Option Addr) (c0z : Nat) (a0 : List Bool) (M : Mem) (w : World) (hI : Inv M w []) (hr0z : rdS tBool M.blk A0z a0) (hl0z : a0.length ≤ c0z) (r : Bool) (H : assizeref13zClosed a0 = some r) :
    Calls Try.prog 20 #[.slice A0z a0.length c0z] w fun e w' => e = .returned (.bool r) ∧ Inv M w' [] := by
  refine calls_go (updL (fun _ => undef) [(0, .slice A0z a0.length c0z)]) Try.func20 rfl (by kernel_rfl) ?_
  intro cs
  unfold assizeref13zClosed at H
  refine go_seq ?_
  refine r_in ?_
  refine o_batch 0 [] [.p] [(2, .bool false)] [] trivial trivial (by kernel_rfl) (by kernel_rfl) (by kernel_rfl) ?_
  refine r_out (by kernel_rfl) ?_
  refine go_seq ?_
  refine go_seq ?_
  refine r_in ?_
  refine o_batch 0 [] [.p, .p, .p] [(5, .slice A0z a0.length c0z), (6, .int .i64 (a0.length : Int)), (7, .bool ((a0.length : Int) != 9))] [] trivial trivial (by kernel_rfl) (by kernel_rfl) (by kernel_rfl) ?_
  refine r_out (by kernel_rfl) ?_
  replace H := cond_some H
  rcases H with ⟨hc2, H⟩ | ⟨hc2, H⟩
  · refine go_then' (t := ((a0.length : Int) != 9)) (by kernel_rfl) hc2 ?_
    refine go_seq ?_
    refine r_in ?_
    refine o_batch 0 [] [.p] [(2, .bool false)] [] trivial trivial (by kernel_rfl) (by kernel_rfl) (by kernel_rfl) ?_
    refine r_out (by kernel_rfl) ?_
    replace H := Option.some.inj H
    subst H
    exact go_return (.bool false) Try.func20 (by kernel_rfl) ⟨rfl, hI⟩
  · refine go_else' (t := ((a0.length : Int) != 9)) (by kernel_rfl) hc2 ?_
    refine go_skip ?_
    refine go_seq ?_
    refine go_seq ?_
    refine r_in ?_
    refine o_batch 0 [] [.p] [(3, .int .i64 1)] [] trivial trivial (by kernel_rfl) (by kernel_rfl) (by kernel_rfl) ?_
    refine r_out (by kernel_rfl) ?_
    refine go_block ?_
    refine go_iter (assizeref13zClosed.s1 a0) (fun x334 f w => ∃ (j : Nat → Value), f = updL j [(0, .slice A0z a0.length c0z), (3, .int .i64 x334)] ∧ Inv M w []) H ⟨_, at_slots _ (by kernel_rfl), hI⟩ ?_
    clear H hI
    rintro x334 _ _ o1 H ⟨_, rfl, hI⟩ hin1 hout1
    refine go_seq ?_
    refine go_seq ?_
    refine r_in ?_
    refine o_batch 0 [] [.p, .p] [(8, .int .i64 x334), (9, .bool (decide (x334 ≤ 8)))] [] trivial trivial (by kernel_rfl) (by kernel_rfl) (by kernel_rfl) ?_
    refine r_out (by kernel_rfl) ?_
    replace H := cond_some H
    rcases H with ⟨hc336, H⟩ | ⟨hc336, H⟩
    · refine go_then' (t := decide (x334 ≤ 8)) (by kernel_rfl) hc336 ?_
      refine go_skip ?_
      refine go_seq ?_
      refine go_block ?_
      refine go_seq ?_
      refine r_in ?_
      refine o_batch 0 [] [.p] [(4, .int .i64 1)] [] trivial trivial (by kernel_rfl) (by kernel_rfl) (by kernel_rfl) ?_
      refine r_out (by kernel_rfl) ?_
      refine go_block ?_
      refine go_iter (assizeref13zClosed.s2 a0 x334) (fun x481 f w => ∃ (j : Nat → Value), f = updL j [(0, .slice A0z a0.length c0z), (3, .int .i64 x334), (4, .int .i64 x481)] ∧ Inv M w []) H ⟨_, at_slots _ (by kernel_rfl), hI⟩ ?_
      clear H hI
      rintro x481 _ _ o2 H ⟨_, rfl, hI⟩ hin2 hout2
      refine go_seq ?_
      refine go_seq ?_
      refine r_in ?_
      refine o_batch 0 [] [.p, .p] [(12, .int .i64 x481), (13, .bool (decide (x481 ≤ 8)))] [] trivial trivial (by kernel_rfl) (by kernel_rfl) (by kernel_rfl) ?_
      refine r_out (by kernel_rfl) ?_
      replace H := cond_some H
      rcases H with ⟨hc483, H⟩ | ⟨hc483, H⟩
      · refine go_then' (t := decide (x481 ≤ 8)) (by kernel_rfl) hc483 ?_
        refine go_skip ?_
        refine go_seq ?_
        refine go_block ?_
        refine go_seq_join (o := o2) (fun b512 f w => ∃ (j : Nat → Value), f = updL j [(0, .slice A0z a0.length c0z), (3, .int .i64 x334), (4, .int .i64 x481), (31, .bool b512)] ∧ Inv M w []) (fun b512 => assizeref13zClosed.j3 x481 b512) ?_ (fun hJ513 => ?_)
        · clear H hI
          rintro b512 _ _ ⟨_, rfl, hI⟩ H
          replace H := cond_some H
          rcases H with ⟨hc514, H⟩ | ⟨hc514, H⟩
          · refine go_then' (t := b512) (by kernel_rfl) hc514 ?_
            refine go_seq ?_
            refine r_in ?_
            refine o_batch 0 [] [.p] [(2, .bool false)] [] trivial trivial (by kernel_rfl) (by kernel_rfl) (by kernel_rfl) ?_
            refine r_out (by kernel_rfl) ?_
            replace H := out_some H
            obtain ⟨_, H, he2⟩ := H
            have he := (hout2 _ he2).symm
            subst he
            replace H := out_some H
            obtain ⟨_, H, he1⟩ := H
            have he := (hout1 _ he1).symm
            subst he
            replace H := Option.some.inj H
            subst H
            exact go_return (.bool false) Try.func20 (by kernel_rfl) ⟨rfl, hI⟩
          · refine go_else' (t := b512) (by kernel_rfl) hc514 ?_
            refine go_skip ?_
            refine go_inBlock ?_
            refine r_in ?_
            refine o_batch 0 [] [.p, .p, .p] [(14, .int .i64 x481), (15, .int .i64 (w64 (x481 + 1))), (4, .int .i64 (w64 (x481 + 1)))] [] trivial trivial (by kernel_rfl) (by kernel_rfl) (by kernel_rfl) ?_
            refine r_out (by kernel_rfl) ?_
            exact hin2 _ (Option.some.inj H).symm _ _ ⟨_, at_slots _ (by kernel_rfl), hI⟩
        · refine r_in ?_
          replace H := must_some H
          obtain ⟨g515, H⟩ := H
          obtain ⟨b516, q517, rfl, _⟩ := rdS.fopen hr0z rfl g515
          replace H := cond_some H
          rcases H with ⟨hc518, H⟩ | ⟨hc518, H⟩
          · replace H := must_some H
            obtain ⟨g519, H⟩ := H
            replace H := cond_some H
            rcases H with ⟨hc520, H⟩ | ⟨hc520, H⟩
            · refine o_batch 0 [(b516, q517 + x481.toNat * 1, [.bool (idx a0 x481)]), (b516, q517 + x334.toNat * 1, [.bool (idx a0 x334)])] [.p, .p, .x, .l 0 0, .c true, .p, .p, .x, .l 1 0, .p, .p, .c true, .p, .p] [(16, .slice (some ⟨b516, q517, none⟩) a0.length c0z), (17, .int .i64 x481), (18, .pointer (some ⟨b516, q517 + x481.toNat * 1, none⟩)), (19, .bool (idx a0 x481)), (20, .bool true), (21, .slice (some ⟨b516, q517, none⟩) a0.length c0z), (22, .int .i64 x334), (23, .pointer (some ⟨b516, q517 + x334.toNat * 1, none⟩)), (24, .bool (idx a0 x334)), (25, .bool (!(idx a0 x334))), (26, .bool (!(idx a0 x334))), (27, .bool true), (28, .int .i64 x334), (29, .int .i64 x481)] [(x481, a0.length), ((bif (idx a0 x481) == true then 0 else -1), 1), (x334, a0.length), ((bif (!(idx a0 x334)) == true then 0 else -1), 1)] ⟨(hI.lies (rdS.flook hr0z rfl g515)), (hI.lies (rdS.flook hr0z rfl g519)), trivial⟩ ⟨g515, (bndEq hc518), g519, (bndEq hc520), trivial⟩ (by kernel_rfl) (by kernel_rfl) (by kernel_rfl) ?_
              replace H := bind_some H
              obtain ⟨y521, hy522, H⟩ := H
              refine o_eff 14 _ rfl (by kernel_rfl) ?_
              refine e_callf _ _ _ 13 #[] #[] #[.int .i64 x334, .int .i64 x481] #[.int .i64 x334, .int .i64 x481] rfl (by kernel_rfl) (by kernel_rfl) (by kernel_rfl) (enter13 _) (assizeref13zBelow_calls x334 x481 (memOf _) _ (Inv.start _) _ hy522) ?_
              rintro _ _ ⟨rfl, hI'⟩
              replace hI := hI.call0 hI'
              clear hI'
              refine ⟨_, rfl, ?_⟩
              refine o_batch 15 [] [.p] [(31, .bool y521)] [] trivial trivial (by kernel_rfl) (by kernel_rfl) (by kernel_rfl) ?_
              refine r_out (by kernel_rfl) ?_
              exact hJ513 y521 _ _ ⟨_, at_slots _ (by kernel_rfl), hI⟩ H
            · refine o_batch 0 [(b516, q517 + x481.toNat * 1, [.bool (idx a0 x481)]), (b516, q517 + x334.toNat * 1, [.bool (idx a0 x334)])] [.p, .p, .x, .l 0 0, .c true, .p, .p, .x, .l 1 0, .p, .p, .c false, .p, .p, .p, .p] [(16, .slice (some ⟨b516, q517, none⟩) a0.length c0z), (17, .int .i64 x481), (18, .pointer (some ⟨b516, q517 + x481.toNat * 1, none⟩)), (19, .bool (idx a0 x481)), (20, .bool true), (21, .slice (some ⟨b516, q517, none⟩) a0.length c0z), (22, .int .i64 x334), (23, .pointer (some ⟨b516, q517 + x334.toNat * 1, none⟩)), (24, .bool (idx a0 x334)), (25, .bool (!(idx a0 x334))), (26, .bool (!(idx a0 x334))), (27, .bool false), (28, undef), (29, undef), (30, undef), (31, .bool false)] [(x481, a0.length), ((bif (idx a0 x481) == true then 0 else -1), 1), (x334, a0.length), ((bif (!(idx a0 x334)) == false then 0 else -1), 1)] ⟨(hI.lies (rdS.flook hr0z rfl g515)), (hI.lies (rdS.flook hr0z rfl g519)), trivial⟩ ⟨g515, (bndEq hc518), g519, (bndEq hc520), trivial⟩ (by kernel_rfl) (by kernel_rfl) (by kernel_rfl) ?_
              refine r_out (by kernel_rfl) ?_
              exact hJ513 false _ _ ⟨_, at_slots _ (by kernel_rfl), hI⟩ H
          · refine o_batch 0 [(b516, q517 + x481.toNat * 1, [.bool (idx a0 x481)])] [.p, .p, .x, .l 0 0, .c false, .p, .p, .p, .p, .p, .p, .p, .p, .p, .p, .p] [(16, .slice (some ⟨b516, q517, none⟩) a0.length c0z), (17, .int .i64 x481), (18, .pointer (some ⟨b516, q517 + x481.toNat * 1, none⟩)), (19, .bool (idx a0 x481)), (20, .bool false), (21, undef), (22, undef), (23, undef), (24, undef), (25, undef), (26, .bool false), (27, .bool false), (28, undef), (29, undef), (30, undef), (31, .bool false)] [(x481, a0.length), ((bif (idx a0 x481) == false then 0 else -1), 1)] ⟨(hI.lies (rdS.flook hr0z rfl g515)), trivial⟩ ⟨g515, (bndEq hc518), trivial⟩ (by kernel_rfl) (by kernel_rfl) (by kernel_rfl) ?_
            refine r_out (by kernel_rfl) ?_
            exact hJ513 false _ _ ⟨_, at_slots _ (by kernel_rfl), hI⟩ H
      · refine go_else' (t := decide (x481 ≤ 8)) (by kernel_rfl) hc483 ?_
        refine go_exit rfl ?_
        refine go_inBlock ?_
        refine r_in ?_
        refine o_batch 0 [] [.p, .p, .p] [(10, .int .i64 x334), (11, .int .i64 (w64 (x334 + 1))), (3, .int .i64 (w64 (x334 + 1)))] [] trivial trivial (by kernel_rfl) (by kernel_rfl) (by kernel_rfl) ?_
        refine r_out (by kernel_rfl) ?_
        replace H := out_some H
        obtain ⟨_, H, he2⟩ := H
        have he := (hout2 _ he2).symm
        subst he
        exact hin1 _ (Option.some.inj H).symm _ _ ⟨_, at_slots _ (by kernel_rfl), hI⟩
    · refine go_else' (t := decide (x334 ≤ 8)) (by kernel_rfl) hc336 ?_
      refine go_exit rfl ?_
      refine go_seq ?_
      refine r_in ?_
      refine o_batch 0 [] [.p] [(2, .bool true)] [] trivial trivial (by kernel_rfl) (by kernel_rfl) (by kernel_rfl) ?_
      refine r_out (by kernel_rfl) ?_
      replace H := out_some H
      obtain ⟨_, H, he1⟩ := H
      have he := (hout1 _ he1).symm
      subst he
      replace H := Option.some.inj H
      subst H
      exact go_return (.bool true) Try.func20 (by kernel_rfl) ⟨rfl, hI⟩

/-! ### assizelaw13.LevelMarks -/
theorem enter5 (a : Array Value) : Sem.pureRun Try.prog (callFunc 5 a) = some (.enter 5 a) := by kernel_rfl
theorem assizelaw13zLevelMarks_calls (A0z : Option Addr) (c0z : Nat) (a0 : List Bool) (M : Mem) (w : World) (hI : Inv M w []) (hr0z : rdS tBool M.blk A0z a0) (hl0z : a0.length ≤ c0z) (r : Bool) (H : assizelaw13zLevelMarks a0 = some r) :
    Calls Try.prog 5 #[.slice A0z a0.length c0z] w fun e w' => e = .returned (.bool r) ∧ Inv M w' [] := by
  refine calls_go (updL (fun _ => undef) [(0, .slice A0z a0.length c0z)]) Try.func5 rfl (by kernel_rfl) ?_
  intro cs
  unfold assizelaw13zLevelMarks at H
  refine go_seq ?_
  refine r_in ?_
  refine o_batch 0 [] [.p] [(2, .bool false)] [] trivial trivial (by kernel_rfl) (by kernel_rfl) (by kernel_rfl) ?_
  refine r_out (by kernel_rfl) ?_
  refine go_seq ?_
  refine go_seq ?_
  refine r_in ?_
  replace H := bind_some H
  obtain ⟨y6, hy7, H⟩ := H
  refine o_eff 0 _ rfl (by kernel_rfl) ?_
  refine e_callf _ _ _ 7 #[] #[] #[] #[] rfl (by kernel_rfl) (by kernel_rfl) (by kernel_rfl) (enter7 _) (assizelaw13zalive_calls (memOf _) _ (Inv.start _) _ hy7) ?_
  rintro _ _ ⟨rfl, hI'⟩
  replace hI := hI.call0 hI'
  clear hI'
  refine ⟨_, rfl, ?_⟩
  refine o_batch 1 [] [.p] [(7, .bool (!y6))] [] trivial trivial (by kernel_rfl) (by kernel_rfl) (by kernel_rfl) ?_
  refine r_out (by kernel_rfl) ?_
  replace H := cond_some H
  rcases H with ⟨hc8, H⟩ | ⟨hc8, H⟩
  · refine go_then' (t := !y6) (by kernel_rfl) hc8 ?_
    refine go_seq ?_
    refine r_in ?_
    refine o_batch 0 [] [.p] [(2, .bool false)] [] trivial trivial (by kernel_rfl) (by kernel_rfl) (by kernel_rfl) ?_
    refine r_out (by kernel_rfl) ?_
    replace H := Option.some.inj H
    subst H
    exact go_return (.bool false) Try.func5 (by kernel_rfl) ⟨rfl, hI⟩
  · refine go_else' (t := !y6) (by kernel_rfl) hc8 ?_
    refine go_skip ?_
    refine go_seq ?_
    refine r_in ?_
    refine o_eff 0 _ rfl (by kernel_rfl) ?_
    refine e_empty (α := Bool) tBool 34 4 _ rfl rfl rfl hI ?_
    clear hI
    intro b13 _ hI
    refine o_batch 1 [] [.p] [(9, .slice A0z a0.length c0z)] [] trivial trivial (by kernel_rfl) (by kernel_rfl) (by kernel_rfl) ?_
    replace H := must_some H
    obtain ⟨g14, H⟩ := H
    refine o_eff 2 _ rfl (by kernel_rfl) ?_
    refine e_append_rd (kt := tBool) 34 0 4 _ _ _ _ (some ⟨b13, 0, none⟩) A0z 0 0 ([] : List Bool) a0 c0z 0 [] [] rfl (by kernel_rfl) (by kernel_rfl) rfl rfl rfl rfl rfl (by kernel_rfl) hI (by decide) rfl (hI.rd hr0z) g14 ?_
    clear hI
    intro A15 c16 _ hI
    refine o_batch 3 [] [.p] [(3, .slice A15 ((([] : List Bool) ++ a0).length) c16)] [] trivial trivial (by kernel_rfl) (by kernel_rfl) (by kernel_rfl) ?_
    refine r_out (by kernel_rfl) ?_
    refine go_seq ?_
    refine r_in ?_
    refine o_batch 0 [] [.p] [(11, .slice A15 ((([] : List Bool) ++ a0).length) c16)] [] trivial trivial (by kernel_rfl) (by kernel_rfl) (by kernel_rfl) ?_
    replace H := bind_some H
    obtain ⟨y21, hy22, H⟩ := H
    refine o_is 8 (.slice (some ⟨b13, 0, none⟩) 0 0) (.slice (some ⟨b13, 0, none⟩) (([] : List Bool).length) 0) (by kernel_rfl) (by first | rfl | simp only [List.length_set, List.length_replicate, List.length_nil]) ?_
    refine o_eff 1 _ rfl (by kernel_rfl) ?_
    refine e_callf _ _ _ 16 #[] #[] #[.slice A15 ((([] : List Bool) ++ a0).length) c16] #[.slice A15 ((([] : List Bool) ++ a0).length) c16] rfl (by kernel_rfl) (by kernel_rfl) (by kernel_rfl) (enter16 _) (level_Under_calls A15 c16 (([] : List Bool) ++ a0) (memOf _) _ (Inv.start _) (hI.row 0 rfl) (hI.rowle 0 rfl) _ hy22) ?_
    rintro _ _ ⟨A23, c24, rfl, hI'⟩
    replace hI := hI.call0 hI'
    clear hI'
    refine ⟨_, rfl, ?_⟩
    refine o_batch 2 [] [.p] [(4, .slice A23 y21.length c24)] [] trivial trivial (by kernel_rfl) (by kernel_rfl) (by kernel_rfl) ?_
    refine r_out (by kernel_rfl) ?_
    refine go_seq ?_
    refine r_in ?_
    refine o_batch 0 [] [.p] [(13, .slice A0z a0.length c0z)] [] trivial trivial (by kernel_rfl) (by kernel_rfl) (by kernel_rfl) ?_
    replace H := bind_some H
    obtain ⟨y29, hy30, H⟩ := H
    refine o_eff 1 _ rfl (by kernel_rfl) ?_
    refine e_callf _ _ _ 17 #[] #[] #[.slice A0z a0.length c0z] #[.slice A0z a0.length c0z] rfl (by kernel_rfl) (by kernel_rfl) (by kernel_rfl) (enter17 _) (assizeref13zUnder_calls A0z c0z a0 (memOf _) _ (Inv.start _) (hI.rd hr0z) hl0z _ hy30) ?_
    rintro _ _ ⟨A31, c32, rfl, hI'⟩
    replace hI := hI.call0 hI'
    clear hI'
    refine ⟨_, rfl, ?_⟩
    refine o_batch 2 [] [.p] [(5, .slice A31 y29.length c32)] [] trivial trivial (by kernel_rfl) (by kernel_rfl) (by kernel_rfl) ?_
    refine r_out (by kernel_rfl) ?_
    refine go_seq ?_
    refine r_in ?_
    refine o_batch 0 [] [.p, .p] [(15, .slice A23 y21.length c24), (16, .slice A31 y29.length c32)] [] trivial trivial (by kernel_rfl) (by kernel_rfl) (by kernel_rfl) ?_
    replace H := bind_some H
    obtain ⟨y43, hy44, H⟩ := H
    refine o_eff 2 _ rfl (by kernel_rfl) ?_
    refine e_callf _ _ _ 18 #[] #[] #[.slice A23 y21.length c24, .slice A31 y29.length c32] #[.slice A23 y21.length c24, .slice A31 y29.length c32] rfl (by kernel_rfl) (by kernel_rfl) (by kernel_rfl) (enter18 _) (assizeref06zSameBools_calls A23 c24 y21 A31 c32 y29 (memOf _) _ (Inv.start _) (hI.row 1 rfl) (hI.rowle 1 rfl) (hI.row 2 rfl) (hI.rowle 2 rfl) _ hy44) ?_
    rintro _ _ ⟨rfl, hI'⟩
    replace hI := hI.call0 hI'
    clear hI'
    refine ⟨_, rfl, ?_⟩
    replace H := cond_some H
    rcases H with ⟨hc45, H⟩ | ⟨hc45, H⟩
    · refine o_batch 3 [] [.c true, .p] [(18, .bool true), (19, .slice A15 ((([] : List Bool) ++ a0).length) c16)] [((bif y43 == true then 0 else -1), 1)] trivial ⟨(bndEq hc45), trivial⟩ (by kernel_rfl) (by kernel_rfl) (by kernel_rfl) ?_
      replace H := bind_some H
      obtain ⟨y46, hy47, H⟩ := H
      refine o_eff 5 _ rfl (by kernel_rfl) ?_
      refine e_callf _ _ _ 19 #[] #[] #[.slice A15 ((([] : List Bool) ++ a0).length) c16] #[.slice A15 ((([] : List Bool) ++ a0).length) c16] rfl (by kernel_rfl) (by kernel_rfl) (by kernel_rfl) (enter19 _) (level_Closed_calls A15 c16 (([] : List Bool) ++ a0) (memOf _) _ (Inv.start _) (hI.row 0 rfl) (hI.rowle 0 rfl) _ hy47) ?_
      rintro _ _ ⟨rfl, hI'⟩
      replace hI := hI.call0 hI'
      clear hI'
      refine ⟨_, rfl, ?_⟩
      refine o_batch 6 [] [.p] [(21, .slice A0z a0.length c0z)] [] trivial trivial (by kernel_rfl) (by kernel_rfl) (by kernel_rfl) ?_
      replace H := bind_some H
      obtain ⟨y48, hy49, H⟩ := H
      refine o_eff 7 _ rfl (by kernel_rfl) ?_
      refine e_callf _ _ _ 20 #[] #[] #[.slice A0z a0.length c0z] #[.slice A0z a0.length c0z] rfl (by kernel_rfl) (by kernel_rfl) (by kernel_rfl) (enter20 _) (assizeref13zClosed_calls A0z c0z a0 (memOf _) _ (Inv.start _) (hI.rd hr0z) hl0z _ hy49) ?_
      rintro _ _ ⟨rfl, hI'⟩
      replace hI := hI.call0 hI'
      clear hI'
      refine ⟨_, rfl, ?_⟩
      replace H := cond_some H
      rcases H with ⟨hc50, H⟩ | ⟨hc50, H⟩
      · refine o_batch 8 [] [.p, .p, .c true, .p, .p] [(23, .bool (y46 == y48)), (24, .bool (y46 == y48)), (25, .bool true), (26, .slice A15 ((([] : List Bool) ++ a0).length) c16), (27, .slice A0z a0.length c0z)] [((bif (y46 == y48) == true then 0 else -1), 1)] trivial ⟨(bndEq hc50), trivial⟩ (by kernel_rfl) (by kernel_rfl) (by kernel_rfl) ?_
        replace H := bind_some H
        obtain ⟨y51, hy52, H⟩ := H
        refine o_eff 13 _ rfl (by kernel_rfl) ?_
        refine e_callf _ _ _ 18 #[] #[] #[.slice A15 ((([] : List Bool) ++ a0).length) c16, .slice A0z a0.length c0z] #[.slice A15 ((([] : List Bool) ++ a0).length) c16, .slice A0z a0.length c0z] rfl (by kernel_rfl) (by kernel_rfl) (by kernel_rfl) (enter18 _) (assizeref06zSameBools_calls A15 c16 (([] : List Bool) ++ a0) A0z c0z a0 (memOf _) _ (Inv.start _) (hI.row 0 rfl) (hI.rowle 0 rfl) (hI.rd hr0z) hl0z _ hy52) ?_
        rintro _ _ ⟨rfl, hI'⟩
        replace hI := hI.call0 hI'
        clear hI'
        refine ⟨_, rfl, ?_⟩
        refine o_batch 14 [] [.p, .p] [(29, .bool y51), (2, .bool y51)] [] trivial trivial (by kernel_rfl) (by kernel_rfl) (by kernel_rfl) ?_
        refine r_out (by kernel_rfl) ?_
        replace H := Option.some.inj H
        subst H
        exact go_return (.bool y51) Try.func5 (by kernel_rfl) ⟨rfl, hI.pick [] (by decide) rfl⟩
      · refine o_batch 8 [] [.p, .p, .c false, .p, .p, .p, .p, .p] [(23, .bool (y46 == y48)), (24, .bool (y46 == y48)), (25, .bool false), (26, undef), (27, undef), (28, undef), (29, .bool false), (2, .bool false)] [((bif (y46 == y48) == false then 0 else -1), 1)] trivial ⟨(bndEq hc50), trivial⟩ (by kernel_rfl) (by kernel_rfl) (by kernel_rfl) ?_
        refine r_out (by kernel_rfl) ?_
        replace H := Option.some.inj H
        subst H
        exact go_return (.bool false) Try.func5 (by kernel_rfl) ⟨rfl, hI.pick [] (by decide) rfl⟩
    · refine o_batch 3 [] [.c false, .p, .p, .p, .p, .p, .p, .p, .p, .p, .p, .p, .p] [(18, .bool false), (19, undef), (20, undef), (21, undef), (22, undef), (23, undef), (24, .bool false), (25, .bool false), (26, undef), (27, undef), (28, undef), (29, .bool false), (2, .bool false)] [((bif y43 == false then 0 else -1), 1)] trivial ⟨(bndEq hc45), trivial⟩ (by kernel_rfl) (by kernel_rfl) (by kernel_rfl) ?_
      refine r_out (by kernel_rfl) ?_
      replace H := Option.some.inj H
      subst H
      exact go_return (.bool false) Try.func5 (by kernel_rfl) ⟨rfl, hI.pick [] (by decide) rfl⟩

end Go.Proofs.YtohaphbogjigcaaT
