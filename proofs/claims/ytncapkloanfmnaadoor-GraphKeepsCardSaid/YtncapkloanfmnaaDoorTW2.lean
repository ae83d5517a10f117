/- The walks, part 2: each call computes its plain function. -/
import Derived.Test.YtncapkloanfmnaaDoorTW1
import Derived.Shelf.Spec.TrailingZeros
import Derived.Test.YtncapkloanfmnaaDoorProg
namespace Go.Proofs.YtncapkloanfmnaaDoorT
open Go Go.Proofs Go.Shelf Go.Proofs.YtncapkloanfmnaaDoorE
set_option linter.unusedVariables false
set_option linter.unusedSimpArgs false
set_option maxHeartbeats 0
set_option maxRecDepth 4096
/-! ### assizelaw06.alive -/
theorem enter10 (a : Array Value) : Sem.pureRun Tryd.prog (callFunc 10 a) = some (.enter 10 a) := by kernel_rfl
theorem assizelaw06zalive_calls  (M : Mem) (w : World) (hI : Inv M w []) (hT : TabM M.blk) (r : Bool) (H : assizelaw06zalive = some r) :
    Calls Tryd.prog 10 #[] w fun e w' => e = .returned (.bool r) ∧ Inv M w' [] := by
  refine calls_go (updL (fun _ => undef) []) Tryd.func10 rfl (by kernel_rfl) ?_
  intro cs
  unfold assizelaw06zalive at H
  refine go_seq ?_
  refine r_in ?_
  refine o_batch 0 [] [.p] [(0, .bool false)] [] trivial trivial (by kernel_rfl) (by kernel_rfl) (by kernel_rfl) ?_
  refine r_out (by kernel_rfl) ?_
  refine go_seq ?_
  refine r_in ?_
  refine o_batch 0 [] [.p, .p] [(7, .agg #[.int .i64 2, .int .i64 1, .int .i64 8, .int .i64 0]), (8, .agg #[.int .i64 1, .int .i64 0, .int .i64 4, .int .i64 0])] [] trivial trivial (by kernel_rfl) (by kernel_rfl) (by kernel_rfl) ?_
  refine o_eff 2 _ rfl (by kernel_rfl) ?_
  refine e_parts 22 40 2 _ _ _ #[.int .i64 2, .int .i64 1, .int .i64 8, .int .i64 0, .int .i64 1, .int .i64 0, .int .i64 4, .int .i64 0] [.int .i64 2, .int .i64 1, .int .i64 8, .int .i64 0, .int .i64 1, .int .i64 0, .int .i64 4, .int .i64 0] rfl rfl rfl rfl (by kernel_rfl) (by kernel_rfl) (by kernel_rfl) (by kernel_rfl) hI ?_
  clear hI
  intro b3 _ hI
  replace hI := hI.asrow (k := kEdge) (xs := ([(⟨2, 1, 8, 0⟩ : Edge), (⟨1, 0, 4, 0⟩ : Edge)] : List Edge)) (cs := [.int .i64 2, .int .i64 1, .int .i64 8, .int .i64 0, .int .i64 1, .int .i64 0, .int .i64 4, .int .i64 0]) (R := []) (L' := []) 2 0 [] [] (by decide) rfl (mks_cons (mk_flat (k := kEdge) (⟨2, 1, 8, 0⟩ : Edge) [.int .i64 2, .int .i64 1, .int .i64 8, .int .i64 0] rfl) (mks_cons (mk_flat (k := kEdge) (⟨1, 0, 4, 0⟩ : Edge) [.int .i64 1, .int .i64 0, .int .i64 4, .int .i64 0] rfl) mks_nil)) rfl rfl (by kernel_rfl)
  refine o_batch 3 [] [.p] [(10, .agg #[.int .i64 3, .slice (some ⟨b3, 0, none⟩) 2 2])] [] trivial trivial (by kernel_rfl) (by kernel_rfl) (by kernel_rfl) ?_
  refine o_eff 4 _ rfl (by kernel_rfl) ?_
  refine e_alloc 24 (.agg #[.int .i64 0, .slice none 0 0]) [.int .i64 0, .slice none 0 0] rfl (by kernel_rfl) rfl hI ?_
  clear hI
  intro b4 _ hI
  refine o_eff 5 _ rfl (by kernel_rfl) ?_
  refine e_store 24 _ _ 1 b4 24 [.int .i64 0, .slice none 0 0] [.int .i64 3, .slice (some ⟨b3, 0, none⟩) 2 2] 0 (.agg #[.int .i64 3, .slice (some ⟨b3, 0, none⟩) 2 2]) rfl (by kernel_rfl) (by kernel_rfl) (by kernel_rfl) (by kernel_rfl) hI rfl (by kernel_rfl) (by kernel_rfl) ?_
  clear hI
  intro _ hI
  refine r_out (by kernel_rfl) ?_
  refine go_seq ?_
  refine r_in ?_
  refine o_batch 0 [(b4, 0, [.int .i64 3, .slice (some ⟨b3, 0, none⟩) 2 2])] [.l 0 0] [(12, .agg #[.int .i64 3, .slice (some ⟨b3, 0, none⟩) 2 2])] [] ⟨(hI.grp 1 rfl), trivial⟩ trivial (by kernel_rfl) (by kernel_rfl) (by kernel_rfl) ?_
  replace H := bind_some H
  obtain ⟨y9, hy10, H⟩ := H
  refine o_is 9 (.slice (some ⟨b3, 0, none⟩) 2 2) (.slice (some ⟨b3, 0, none⟩) (([(⟨2, 1, 8, 0⟩ : Edge), (⟨1, 0, 4, 0⟩ : Edge)] : List Edge).length) 2) (by kernel_rfl) (by first | rfl | simp only [List.length_set, List.length_replicate, List.length_nil]) ?_
  refine o_is 10 (.agg #[.int .i64 3, .slice (some ⟨b3, 0, none⟩) 2 2]) (.agg #[.int .i64 3, .slice (some ⟨b3, 0, none⟩) (([(⟨2, 1, 8, 0⟩ : Edge), (⟨1, 0, 4, 0⟩ : Edge)] : List Edge).length) 2]) (by kernel_rfl) (by first | rfl | simp only [List.length_set, List.length_replicate, List.length_nil]) ?_
  refine o_is 12 (.agg #[.int .i64 3, .slice (some ⟨b3, 0, none⟩) 2 2]) (.agg #[.int .i64 3, .slice (some ⟨b3, 0, none⟩) (([(⟨2, 1, 8, 0⟩ : Edge), (⟨1, 0, 4, 0⟩ : Edge)] : List Edge).length) 2]) (by kernel_rfl) (by first | rfl | simp only [List.length_set, List.length_replicate, List.length_nil]) ?_
  refine o_is 12 (.agg #[.int .i64 3, .slice (some ⟨b3, 0, none⟩) 2 2]) (.agg #[.int .i64 3, .slice (some ⟨b3, 0, none⟩) (([(⟨2, 1, 8, 0⟩ : Edge), (⟨1, 0, 4, 0⟩ : Edge)] : List Edge).length) 2]) (by kernel_rfl) (by first | rfl | simp only [List.length_set, List.length_replicate, List.length_nil]) ?_
  replace hI := hI.renum 0 rfl
  replace hI := hI.recell 1 [.int .i64 3, .slice (some ⟨b3, 0, none⟩) (([(⟨2, 1, 8, 0⟩ : Edge), (⟨1, 0, 4, 0⟩ : Edge)] : List Edge).length) 2] (by first | rfl | simp only [List.length_set, List.length_replicate, List.length_nil]) rfl
  refine o_eff 1 _ rfl (by kernel_rfl) ?_
  refine e_callf _ _ _ 21 #[] #[] #[.agg #[.int .i64 3, .slice (some ⟨b3, 0, none⟩) (([(⟨2, 1, 8, 0⟩ : Edge), (⟨1, 0, 4, 0⟩ : Edge)] : List Edge).length) 2], .int .i64 12] #[.agg #[.int .i64 3, .slice (some ⟨b3, 0, none⟩) (([(⟨2, 1, 8, 0⟩ : Edge), (⟨1, 0, 4, 0⟩ : Edge)] : List Edge).length) 2], .int .i64 12] rfl (by kernel_rfl) (by kernel_rfl) (by kernel_rfl) (enter21 _) (graph_Order_calls (⟨3, ([(⟨2, 1, 8, 0⟩ : Edge), (⟨1, 0, 4, 0⟩ : Edge)] : List Edge)⟩ : Graph) (some ⟨b3, 0, none⟩) 2 12 (memOf _) _ (Inv.start _) (hI.rd hT) (hI.row 0 rfl) (hI.rowle 0 rfl) _ hy10) ?_
  rintro _ _ ⟨A11, c12, rfl, hI'⟩
  replace hI := hI.call0 hI'
  clear hI'
  refine ⟨_, rfl, ?_⟩
  refine o_batch 2 [] [.p, .p, .p, .p, .p, .p, .p] [(11, .tuple #[.slice A11 y9.1.length c12, .bool y9.2.1, .int .i64 y9.2.2]), (14, .slice A11 y9.1.length c12), (15, .bool y9.2.1), (16, .int .i64 y9.2.2), (2, .slice A11 y9.1.length c12), (3, .bool y9.2.1), (4, .int .i64 y9.2.2)] [] trivial trivial (by kernel_rfl) (by kernel_rfl) (by kernel_rfl) ?_
  refine r_out (by kernel_rfl) ?_
  refine go_seq ?_
  refine r_in ?_
  refine o_batch 0 [(b4, 0, [.int .i64 3, .slice (some ⟨b3, 0, none⟩) (([(⟨2, 1, 8, 0⟩ : Edge), (⟨1, 0, 4, 0⟩ : Edge)] : List Edge).length) 2])] [.l 0 0] [(18, .agg #[.int .i64 3, .slice (some ⟨b3, 0, none⟩) (([(⟨2, 1, 8, 0⟩ : Edge), (⟨1, 0, 4, 0⟩ : Edge)] : List Edge).length) 2])] [] ⟨(hI.grp 1 rfl), trivial⟩ trivial (by kernel_rfl) (by kernel_rfl) (by kernel_rfl) ?_
  replace H := bind_some H
  obtain ⟨y17, hy18, H⟩ := H
  refine o_eff 1 _ rfl (by kernel_rfl) ?_
  refine e_callf _ _ _ 12 #[] #[] #[.agg #[.int .i64 3, .slice (some ⟨b3, 0, none⟩) (([(⟨2, 1, 8, 0⟩ : Edge), (⟨1, 0, 4, 0⟩ : Edge)] : List Edge).length) 2], .int .i64 8, .int .i64 2] #[.agg #[.int .i64 3, .slice (some ⟨b3, 0, none⟩) (([(⟨2, 1, 8, 0⟩ : Edge), (⟨1, 0, 4, 0⟩ : Edge)] : List Edge).length) 2], .int .i64 8, .int .i64 2] rfl (by kernel_rfl) (by kernel_rfl) (by kernel_rfl) (enter12 _) (graph_Reach_calls (⟨3, ([(⟨2, 1, 8, 0⟩ : Edge), (⟨1, 0, 4, 0⟩ : Edge)] : List Edge)⟩ : Graph) (some ⟨b3, 0, none⟩) 2 8 2 (memOf _) _ (Inv.start _) (hI.rd hT) (hI.row 0 rfl) (hI.rowle 0 rfl) _ hy18) ?_
  rintro _ _ ⟨A19, c20, rfl, hI'⟩
  replace hI := hI.call0 hI'
  clear hI'
  refine ⟨_, rfl, ?_⟩
  refine o_batch 2 [] [.p, .p, .p, .p, .p] [(17, .tuple #[.slice A19 y17.1.length c20, .int .i64 y17.2]), (20, .slice A19 y17.1.length c20), (21, .int .i64 y17.2), (5, .slice A19 y17.1.length c20), (6, .int .i64 y17.2)] [] trivial trivial (by kernel_rfl) (by kernel_rfl) (by kernel_rfl) ?_
  refine r_out (by kernel_rfl) ?_
  refine go_seq ?_
  refine r_in ?_
  replace H := cond_some H
  rcases H with ⟨hc38, H⟩ | ⟨hc38, H⟩
  · replace H := cond_some H
    rcases H with ⟨hc39, H⟩ | ⟨hc39, H⟩
    · replace H := cond_some H
      rcases H with ⟨hc40, H⟩ | ⟨hc40, H⟩
      · replace H := must_some H
        obtain ⟨g41, H⟩ := H
        obtain ⟨b42, rfl⟩ := hI.rowAt 2 rfl g41
        replace H := cond_some H
        rcases H with ⟨hc43, H⟩ | ⟨hc43, H⟩
        · replace H := must_some H
          obtain ⟨g44, H⟩ := H
          replace H := cond_some H
          rcases H with ⟨hc45, H⟩ | ⟨hc45, H⟩
          · replace H := cond_some H
            rcases H with ⟨hc46, H⟩ | ⟨hc46, H⟩
            · replace H := cond_some H
              rcases H with ⟨hc47, H⟩ | ⟨hc47, H⟩
              · replace H := must_some H
                obtain ⟨g48, H⟩ := H
                obtain ⟨b49, rfl⟩ := hI.rowAt 3 rfl g48
                replace H := cond_some H
                rcases H with ⟨hc50, H⟩ | ⟨hc50, H⟩
                · replace H := must_some H
                  obtain ⟨g51, H⟩ := H
                  replace H := cond_some H
                  rcases H with ⟨hc52, H⟩ | ⟨hc52, H⟩
                  · refine o_batch 0 [(b42, 0 + (0 : Int).toNat * 1, [.int .i64 (idx y9.1 (0 : Int))]), (b42, 0 + (2 : Int).toNat * 1, [.int .i64 (idx y9.1 (2 : Int))]), (b49, 0 + (1 : Int).toNat * 1, [.bool (idx y17.1 (1 : Int))]), (b49, 0 + (0 : Int).toNat * 1, [.bool (idx y17.1 (0 : Int))])] [.p, .p, .c true, .p, .p, .c true, .p, .p, .p, .p, .c true, .p, .x, .l 0 0, .p, .p, .c true, .p, .x, .l 1 0, .p, .p, .c true, .p, .p, .p, .c true, .p, .p, .p, .p, .c true, .p, .x, .l 2 0, .p, .c true, .p, .x, .l 3 0, .p, .p, .c true, .p] [(22, .int .i64 y9.2.2), (23, .bool (y9.2.2 == 0)), (24, .bool true), (25, .bool y9.2.1), (26, .bool y9.2.1), (27, .bool true), (28, .slice (some ⟨b42, 0, none⟩) y9.1.length c12), (29, .int .i64 (y9.1.length : Int)), (30, .bool ((y9.1.length : Int) == 3)), (31, .bool ((y9.1.length : Int) == 3)), (32, .bool true), (33, .slice (some ⟨b42, 0, none⟩) y9.1.length c12), (34, .pointer (some ⟨b42, 0 + (0 : Int).toNat * 1, none⟩)), (35, .int .i64 (idx y9.1 (0 : Int))), (36, .bool (idx y9.1 (0 : Int) == 2)), (37, .bool (idx y9.1 (0 : Int) == 2)), (38, .bool true), (39, .slice (some ⟨b42, 0, none⟩) y9.1.length c12), (40, .pointer (some ⟨b42, 0 + (2 : Int).toNat * 1, none⟩)), (41, .int .i64 (idx y9.1 (2 : Int))), (42, .bool (idx y9.1 (2 : Int) == 0)), (43, .bool (idx y9.1 (2 : Int) == 0)), (44, .bool true), (45, .int .i64 y17.2), (46, .bool (y17.2 == 0)), (47, .bool (y17.2 == 0)), (48, .bool true), (49, .slice (some ⟨b49, 0, none⟩) y17.1.length c20), (50, .int .i64 (y17.1.length : Int)), (51, .bool ((y17.1.length : Int) == 3)), (52, .bool ((y17.1.length : Int) == 3)), (53, .bool true), (54, .slice (some ⟨b49, 0, none⟩) y17.1.length c20), (55, .pointer (some ⟨b49, 0 + (1 : Int).toNat * 1, none⟩)), (56, .bool (idx y17.1 (1 : Int))), (57, .bool (idx y17.1 (1 : Int))), (58, .bool true), (59, .slice (some ⟨b49, 0, none⟩) y17.1.length c20), (60, .pointer (some ⟨b49, 0 + (0 : Int).toNat * 1, none⟩)), (61, .bool (idx y17.1 (0 : Int))), (62, .bool (!(idx y17.1 (0 : Int)))), (63, .bool (!(idx y17.1 (0 : Int)))), (64, .bool true), (65, .agg #[.int .i64 (-1), .slice none 0 0])] [((bif (y9.2.2 == 0) == true then 0 else -1), 1), ((bif y9.2.1 == true then 0 else -1), 1), ((bif ((y9.1.length : Int) == 3) == true then 0 else -1), 1), (0, y9.1.length), ((bif (idx y9.1 (0 : Int) == 2) == true then 0 else -1), 1), (2, y9.1.length), ((bif (idx y9.1 (2 : Int) == 0) == true then 0 else -1), 1), ((bif (y17.2 == 0) == true then 0 else -1), 1), ((bif ((y17.1.length : Int) == 3) == true then 0 else -1), 1), (1, y17.1.length), ((bif (idx y17.1 (1 : Int)) == true then 0 else -1), 1), (0, y17.1.length), ((bif (!(idx y17.1 (0 : Int))) == true then 0 else -1), 1)] ⟨(rdS.flook (hI.row 2 rfl) (hI.rowlen 2 rfl) g41).ok, (rdS.flook (hI.row 2 rfl) (hI.rowlen 2 rfl) g44).ok, (rdS.flook (hI.row 3 rfl) (hI.rowlen 3 rfl) g48).ok, (rdS.flook (hI.row 3 rfl) (hI.rowlen 3 rfl) g51).ok, trivial⟩ ⟨(bndEq hc38), (bndEq hc39), (bndEq hc40), g41, (bndEq hc43), g44, (bndEq hc45), (bndEq hc46), (bndEq hc47), g48, (bndEq hc50), g51, (bndEq hc52), trivial⟩ (by kernel_rfl) (by kernel_rfl) (by kernel_rfl) ?_
                    replace H := bind_some H
                    obtain ⟨y53, hy54, H⟩ := H
                    refine o_eff 44 _ rfl (by kernel_rfl) ?_
                    refine e_callf _ _ _ 18 #[] #[] #[.agg #[.int .i64 (-1), .slice none 0 0]] #[.agg #[.int .i64 (-1), .slice none 0 0]] rfl (by kernel_rfl) (by kernel_rfl) (by kernel_rfl) (enter18 _) (graph_Check_calls (⟨(-1), ([] : List Edge)⟩ : Graph) none 0 (memOf _) _ (Inv.start _) (.inl rfl) (Nat.le_refl _) _ hy54) ?_
                    rintro _ _ ⟨rfl, hI'⟩
                    replace hI := hI.call0 hI'
                    clear hI'
                    refine ⟨_, rfl, ?_⟩
                    refine o_batch 45 [] [.p, .p, .p] [(67, .bool (y53 == 60)), (68, .bool (y53 == 60)), (0, .bool (y53 == 60))] [] trivial trivial (by kernel_rfl) (by kernel_rfl) (by kernel_rfl) ?_
                    refine r_out (by kernel_rfl) ?_
                    replace H := Option.some.inj H
                    subst H
                    exact go_return (.bool (y53 == 60)) Tryd.func10 (by kernel_rfl) ⟨rfl, hI.pick [] (by decide) rfl⟩
                  · refine o_batch 0 [(b42, 0 + (0 : Int).toNat * 1, [.int .i64 (idx y9.1 (0 : Int))]), (b42, 0 + (2 : Int).toNat * 1, [.int .i64 (idx y9.1 (2 : Int))]), (b49, 0 + (1 : Int).toNat * 1, [.bool (idx y17.1 (1 : Int))]), (b49, 0 + (0 : Int).toNat * 1, [.bool (idx y17.1 (0 : Int))])] [.p, .p, .c true, .p, .p, .c true, .p, .p, .p, .p, .c true, .p, .x, .l 0 0, .p, .p, .c true, .p, .x, .l 1 0, .p, .p, .c true, .p, .p, .p, .c true, .p, .p, .p, .p, .c true, .p, .x, .l 2 0, .p, .c true, .p, .x, .l 3 0, .p, .p, .c false, .p, .p, .p, .p, .p] [(22, .int .i64 y9.2.2), (23, .bool (y9.2.2 == 0)), (24, .bool true), (25, .bool y9.2.1), (26, .bool y9.2.1), (27, .bool true), (28, .slice (some ⟨b42, 0, none⟩) y9.1.length c12), (29, .int .i64 (y9.1.length : Int)), (30, .bool ((y9.1.length : Int) == 3)), (31, .bool ((y9.1.length : Int) == 3)), (32, .bool true), (33, .slice (some ⟨b42, 0, none⟩) y9.1.length c12), (34, .pointer (some ⟨b42, 0 + (0 : Int).toNat * 1, none⟩)), (35, .int .i64 (idx y9.1 (0 : Int))), (36, .bool (idx y9.1 (0 : Int) == 2)), (37, .bool (idx y9.1 (0 : Int) == 2)), (38, .bool true), (39, .slice (some ⟨b42, 0, none⟩) y9.1.length c12), (40, .pointer (some ⟨b42, 0 + (2 : Int).toNat * 1, none⟩)), (41, .int .i64 (idx y9.1 (2 : Int))), (42, .bool (idx y9.1 (2 : Int) == 0)), (43, .bool (idx y9.1 (2 : Int) == 0)), (44, .bool true), (45, .int .i64 y17.2), (46, .bool (y17.2 == 0)), (47, .bool (y17.2 == 0)), (48, .bool true), (49, .slice (some ⟨b49, 0, none⟩) y17.1.length c20), (50, .int .i64 (y17.1.length : Int)), (51, .bool ((y17.1.length : Int) == 3)), (52, .bool ((y17.1.length : Int) == 3)), (53, .bool true), (54, .slice (some ⟨b49, 0, none⟩) y17.1.length c20), (55, .pointer (some ⟨b49, 0 + (1 : Int).toNat * 1, none⟩)), (56, .bool (idx y17.1 (1 : Int))), (57, .bool (idx y17.1 (1 : Int))), (58, .bool true), (59, .slice (some ⟨b49, 0, none⟩) y17.1.length c20), (60, .pointer (some ⟨b49, 0 + (0 : Int).toNat * 1, none⟩)), (61, .bool (idx y17.1 (0 : Int))), (62, .bool (!(idx y17.1 (0 : Int)))), (63, .bool (!(idx y17.1 (0 : Int)))), (64, .bool false), (65, undef), (66, undef), (67, undef), (68, .bool false), (0, .bool false)] [((bif (y9.2.2 == 0) == true then 0 else -1), 1), ((bif y9.2.1 == true then 0 else -1), 1), ((bif ((y9.1.length : Int) == 3) == true then 0 else -1), 1), (0, y9.1.length), ((bif (idx y9.1 (0 : Int) == 2) == true then 0 else -1), 1), (2, y9.1.length), ((bif (idx y9.1 (2 : Int) == 0) == true then 0 else -1), 1), ((bif (y17.2 == 0) == true then 0 else -1), 1), ((bif ((y17.1.length : Int) == 3) == true then 0 else -1), 1), (1, y17.1.length), ((bif (idx y17.1 (1 : Int)) == true then 0 else -1), 1), (0, y17.1.length), ((bif (!(idx y17.1 (0 : Int))) == false then 0 else -1), 1)] ⟨(rdS.flook (hI.row 2 rfl) (hI.rowlen 2 rfl) g41).ok, (rdS.flook (hI.row 2 rfl) (hI.rowlen 2 rfl) g44).ok, (rdS.flook (hI.row 3 rfl) (hI.rowlen 3 rfl) g48).ok, (rdS.flook (hI.row 3 rfl) (hI.rowlen 3 rfl) g51).ok, trivial⟩ ⟨(bndEq hc38), (bndEq hc39), (bndEq hc40), g41, (bndEq hc43), g44, (bndEq hc45), (bndEq hc46), (bndEq hc47), g48, (bndEq hc50), g51, (bndEq hc52), trivial⟩ (by kernel_rfl) (by kernel_rfl) (by kernel_rfl) ?_
                    refine r_out (by kernel_rfl) ?_
                    replace H := Option.some.inj H
                    subst H
                    exact go_return (.bool false) Tryd.func10 (by kernel_rfl) ⟨rfl, hI.pick [] (by decide) rfl⟩
                · refine o_batch 0 [(b42, 0 + (0 : Int).toNat * 1, [.int .i64 (idx y9.1 (0 : Int))]), (b42, 0 + (2 : Int).toNat * 1, [.int .i64 (idx y9.1 (2 : Int))]), (b49, 0 + (1 : Int).toNat * 1, [.bool (idx y17.1 (1 : Int))])] [.p, .p, .c true, .p, .p, .c true, .p, .p, .p, .p, .c true, .p, .x, .l 0 0, .p, .p, .c true, .p, .x, .l 1 0, .p, .p, .c true, .p, .p, .p, .c true, .p, .p, .p, .p, .c true, .p, .x, .l 2 0, .p, .c false, .p, .p, .p, .p, .p, .p, .p, .p, .p, .p, .p] [(22, .int .i64 y9.2.2), (23, .bool (y9.2.2 == 0)), (24, .bool true), (25, .bool y9.2.1), (26, .bool y9.2.1), (27, .bool true), (28, .slice (some ⟨b42, 0, none⟩) y9.1.length c12), (29, .int .i64 (y9.1.length : Int)), (30, .bool ((y9.1.length : Int) == 3)), (31, .bool ((y9.1.length : Int) == 3)), (32, .bool true), (33, .slice (some ⟨b42, 0, none⟩) y9.1.length c12), (34, .pointer (some ⟨b42, 0 + (0 : Int).toNat * 1, none⟩)), (35, .int .i64 (idx y9.1 (0 : Int))), (36, .bool (idx y9.1 (0 : Int) == 2)), (37, .bool (idx y9.1 (0 : Int) == 2)), (38, .bool true), (39, .slice (some ⟨b42, 0, none⟩) y9.1.length c12), (40, .pointer (some ⟨b42, 0 + (2 : Int).toNat * 1, none⟩)), (41, .int .i64 (idx y9.1 (2 : Int))), (42, .bool (idx y9.1 (2 : Int) == 0)), (43, .bool (idx y9.1 (2 : Int) == 0)), (44, .bool true), (45, .int .i64 y17.2), (46, .bool (y17.2 == 0)), (47, .bool (y17.2 == 0)), (48, .bool true), (49, .slice (some ⟨b49, 0, none⟩) y17.1.length c20), (50, .int .i64 (y17.1.length : Int)), (51, .bool ((y17.1.length : Int) == 3)), (52, .bool ((y17.1.length : Int) == 3)), (53, .bool true), (54, .slice (some ⟨b49, 0, none⟩) y17.1.length c20), (55, .pointer (some ⟨b49, 0 + (1 : Int).toNat * 1, none⟩)), (56, .bool (idx y17.1 (1 : Int))), (57, .bool (idx y17.1 (1 : Int))), (58, .bool false), (59, undef), (60, undef), (61, undef), (62, undef), (63, .bool false), (64, .bool false), (65, undef), (66, undef), (67, undef), (68, .bool false), (0, .bool false)] [((bif (y9.2.2 == 0) == true then 0 else -1), 1), ((bif y9.2.1 == true then 0 else -1), 1), ((bif ((y9.1.length : Int) == 3) == true then 0 else -1), 1), (0, y9.1.length), ((bif (idx y9.1 (0 : Int) == 2) == true then 0 else -1), 1), (2, y9.1.length), ((bif (idx y9.1 (2 : Int) == 0) == true then 0 else -1), 1), ((bif (y17.2 == 0) == true then 0 else -1), 1), ((bif ((y17.1.length : Int) == 3) == true then 0 else -1), 1), (1, y17.1.length), ((bif (idx y17.1 (1 : Int)) == false then 0 else -1), 1)] ⟨(rdS.flook (hI.row 2 rfl) (hI.rowlen 2 rfl) g41).ok, (rdS.flook (hI.row 2 rfl) (hI.rowlen 2 rfl) g44).ok, (rdS.flook (hI.row 3 rfl) (hI.rowlen 3 rfl) g48).ok, trivial⟩ ⟨(bndEq hc38), (bndEq hc39), (bndEq hc40), g41, (bndEq hc43), g44, (bndEq hc45), (bndEq hc46), (bndEq hc47), g48, (bndEq hc50), trivial⟩ (by kernel_rfl) (by kernel_rfl) (by kernel_rfl) ?_
                  refine r_out (by kernel_rfl) ?_
                  replace H := Option.some.inj H
                  subst H
                  exact go_return (.bool false) Tryd.func10 (by kernel_rfl) ⟨rfl, hI.pick [] (by decide) rfl⟩
              · refine o_batch 0 [(b42, 0 + (0 : Int).toNat * 1, [.int .i64 (idx y9.1 (0 : Int))]), (b42, 0 + (2 : Int).toNat * 1, [.int .i64 (idx y9.1 (2 : Int))])] [.p, .p, .c true, .p, .p, .c true, .p, .p, .p, .p, .c true, .p, .x, .l 0 0, .p, .p, .c true, .p, .x, .l 1 0, .p, .p, .c true, .p, .p, .p, .c true, .p, .p, .p, .p, .c false, .p, .p, .p, .p, .p, .p, .p, .p, .p, .p, .p, .p, .p, .p, .p, .p] [(22, .int .i64 y9.2.2), (23, .bool (y9.2.2 == 0)), (24, .bool true), (25, .bool y9.2.1), (26, .bool y9.2.1), (27, .bool true), (28, .slice (some ⟨b42, 0, none⟩) y9.1.length c12), (29, .int .i64 (y9.1.length : Int)), (30, .bool ((y9.1.length : Int) == 3)), (31, .bool ((y9.1.length : Int) == 3)), (32, .bool true), (33, .slice (some ⟨b42, 0, none⟩) y9.1.length c12), (34, .pointer (some ⟨b42, 0 + (0 : Int).toNat * 1, none⟩)), (35, .int .i64 (idx y9.1 (0 : Int))), (36, .bool (idx y9.1 (0 : Int) == 2)), (37, .bool (idx y9.1 (0 : Int) == 2)), (38, .bool true), (39, .slice (some ⟨b42, 0, none⟩) y9.1.length c12), (40, .pointer (some ⟨b42, 0 + (2 : Int).toNat * 1, none⟩)), (41, .int .i64 (idx y9.1 (2 : Int))), (42, .bool (idx y9.1 (2 : Int) == 0)), (43, .bool (idx y9.1 (2 : Int) == 0)), (44, .bool true), (45, .int .i64 y17.2), (46, .bool (y17.2 == 0)), (47, .bool (y17.2 == 0)), (48, .bool true), (49, .slice A19 y17.1.length c20), (50, .int .i64 (y17.1.length : Int)), (51, .bool ((y17.1.length : Int) == 3)), (52, .bool ((y17.1.length : Int) == 3)), (53, .bool false), (54, undef), (55, undef), (56, undef), (57, .bool false), (58, .bool false), (59, undef), (60, undef), (61, undef), (62, undef), (63, .bool false), (64, .bool false), (65, undef), (66, undef), (67, undef), (68, .bool false), (0, .bool false)] [((bif (y9.2.2 == 0) == true then 0 else -1), 1), ((bif y9.2.1 == true then 0 else -1), 1), ((bif ((y9.1.length : Int) == 3) == true then 0 else -1), 1), (0, y9.1.length), ((bif (idx y9.1 (0 : Int) == 2) == true then 0 else -1), 1), (2, y9.1.length), ((bif (idx y9.1 (2 : Int) == 0) == true then 0 else -1), 1), ((bif (y17.2 == 0) == true then 0 else -1), 1), ((bif ((y17.1.length : Int) == 3) == false then 0 else -1), 1)] ⟨(rdS.flook (hI.row 2 rfl) (hI.rowlen 2 rfl) g41).ok, (rdS.flook (hI.row 2 rfl) (hI.rowlen 2 rfl) g44).ok, trivial⟩ ⟨(bndEq hc38), (bndEq hc39), (bndEq hc40), g41, (bndEq hc43), g44, (bndEq hc45), (bndEq hc46), (bndEq hc47), trivial⟩ (by kernel_rfl) (by kernel_rfl) (by kernel_rfl) ?_
                refine r_out (by kernel_rfl) ?_
                replace H := Option.some.inj H
                subst H
                exact go_return (.bool false) Tryd.func10 (by kernel_rfl) ⟨rfl, hI.pick [] (by decide) rfl⟩
            · refine o_batch 0 [(b42, 0 + (0 : Int).toNat * 1, [.int .i64 (idx y9.1 (0 : Int))]), (b42, 0 + (2 : Int).toNat * 1, [.int .i64 (idx y9.1 (2 : Int))])] [.p, .p, .c true, .p, .p, .c true, .p, .p, .p, .p, .c true, .p, .x, .l 0 0, .p, .p, .c true, .p, .x, .l 1 0, .p, .p, .c true, .p, .p, .p, .c false, .p, .p, .p, .p, .p, .p, .p, .p, .p, .p, .p, .p, .p, .p, .p, .p, .p, .p, .p, .p, .p] [(22, .int .i64 y9.2.2), (23, .bool (y9.2.2 == 0)), (24, .bool true), (25, .bool y9.2.1), (26, .bool y9.2.1), (27, .bool true), (28, .slice (some ⟨b42, 0, none⟩) y9.1.length c12), (29, .int .i64 (y9.1.length : Int)), (30, .bool ((y9.1.length : Int) == 3)), (31, .bool ((y9.1.length : Int) == 3)), (32, .bool true), (33, .slice (some ⟨b42, 0, none⟩) y9.1.length c12), (34, .pointer (some ⟨b42, 0 + (0 : Int).toNat * 1, none⟩)), (35, .int .i64 (idx y9.1 (0 : Int))), (36, .bool (idx y9.1 (0 : Int) == 2)), (37, .bool (idx y9.1 (0 : Int) == 2)), (38, .bool true), (39, .slice (some ⟨b42, 0, none⟩) y9.1.length c12), (40, .pointer (some ⟨b42, 0 + (2 : Int).toNat * 1, none⟩)), (41, .int .i64 (idx y9.1 (2 : Int))), (42, .bool (idx y9.1 (2 : Int) == 0)), (43, .bool (idx y9.1 (2 : Int) == 0)), (44, .bool true), (45, .int .i64 y17.2), (46, .bool (y17.2 == 0)), (47, .bool (y17.2 == 0)), (48, .bool false), (49, undef), (50, undef), (51, undef), (52, .bool false), (53, .bool false), (54, undef), (55, undef), (56, undef), (57, .bool false), (58, .bool false), (59, undef), (60, undef), (61, undef), (62, undef), (63, .bool false), (64, .bool false), (65, undef), (66, undef), (67, undef), (68, .bool false), (0, .bool false)] [((bif (y9.2.2 == 0) == true then 0 else -1), 1), ((bif y9.2.1 == true then 0 else -1), 1), ((bif ((y9.1.length : Int) == 3) == true then 0 else -1), 1), (0, y9.1.length), ((bif (idx y9.1 (0 : Int) == 2) == true then 0 else -1), 1), (2, y9.1.length), ((bif (idx y9.1 (2 : Int) == 0) == true then 0 else -1), 1), ((bif (y17.2 == 0) == false then 0 else -1), 1)] ⟨(rdS.flook (hI.row 2 rfl) (hI.rowlen 2 rfl) g41).ok, (rdS.flook (hI.row 2 rfl) (hI.rowlen 2 rfl) g44).ok, trivial⟩ ⟨(bndEq hc38), (bndEq hc39), (bndEq hc40), g41, (bndEq hc43), g44, (bndEq hc45), (bndEq hc46), trivial⟩ (by kernel_rfl) (by kernel_rfl) (by kernel_rfl) ?_
              refine r_out (by kernel_rfl) ?_
              replace H := Option.some.inj H
              subst H
              exact go_return (.bool false) Tryd.func10 (by kernel_rfl) ⟨rfl, hI.pick [] (by decide) rfl⟩
          · refine o_batch 0 [(b42, 0 + (0 : Int).toNat * 1, [.int .i64 (idx y9.1 (0 : Int))]), (b42, 0 + (2 : Int).toNat * 1, [.int .i64 (idx y9.1 (2 : Int))])] [.p, .p, .c true, .p, .p, .c true, .p, .p, .p, .p, .c true, .p, .x, .l 0 0, .p, .p, .c true, .p, .x, .l 1 0, .p, .p, .c false, .p, .p, .p, .p, .p, .p, .p, .p, .p, .p, .p, .p, .p, .p, .p, .p, .p, .p, .p, .p, .p, .p, .p, .p, .p] [(22, .int .i64 y9.2.2), (23, .bool (y9.2.2 == 0)), (24, .bool true), (25, .bool y9.2.1), (26, .bool y9.2.1), (27, .bool true), (28, .slice (some ⟨b42, 0, none⟩) y9.1.length c12), (29, .int .i64 (y9.1.length : Int)), (30, .bool ((y9.1.length : Int) == 3)), (31, .bool ((y9.1.length : Int) == 3)), (32, .bool true), (33, .slice (some ⟨b42, 0, none⟩) y9.1.length c12), (34, .pointer (some ⟨b42, 0 + (0 : Int).toNat * 1, none⟩)), (35, .int .i64 (idx y9.1 (0 : Int))), (36, .bool (idx y9.1 (0 : Int) == 2)), (37, .bool (idx y9.1 (0 : Int) == 2)), (38, .bool true), (39, .slice (some ⟨b42, 0, none⟩) y9.1.length c12), (40, .pointer (some ⟨b42, 0 + (2 : Int).toNat * 1, none⟩)), (41, .int .i64 (idx y9.1 (2 : Int))), (42, .bool (idx y9.1 (2 : Int) == 0)), (43, .bool (idx y9.1 (2 : Int) == 0)), (44, .bool false), (45, undef), (46, undef), (47, .bool false), (48, .bool false), (49, undef), (50, undef), (51, undef), (52, .bool false), (53, .bool false), (54, undef), (55, undef), (56, undef), (57, .bool false), (58, .bool false), (59, undef), (60, undef), (61, undef), (62, undef), (63, .bool false), (64, .bool false), (65, undef), (66, undef), (67, undef), (68, .bool false), (0, .bool false)] [((bif (y9.2.2 == 0) == true then 0 else -1), 1), ((bif y9.2.1 == true then 0 else -1), 1), ((bif ((y9.1.length : Int) == 3) == true then 0 else -1), 1), (0, y9.1.length), ((bif (idx y9.1 (0 : Int) == 2) == true then 0 else -1), 1), (2, y9.1.length), ((bif (idx y9.1 (2 : Int) == 0) == false then 0 else -1), 1)] ⟨(rdS.flook (hI.row 2 rfl) (hI.rowlen 2 rfl) g41).ok, (rdS.flook (hI.row 2 rfl) (hI.rowlen 2 rfl) g44).ok, trivial⟩ ⟨(bndEq hc38), (bndEq hc39), (bndEq hc40), g41, (bndEq hc43), g44, (bndEq hc45), trivial⟩ (by kernel_rfl) (by kernel_rfl) (by kernel_rfl) ?_
            refine r_out (by kernel_rfl) ?_
            replace H := Option.some.inj H
            subst H
            exact go_return (.bool false) Tryd.func10 (by kernel_rfl) ⟨rfl, hI.pick [] (by decide) rfl⟩
        · refine o_batch 0 [(b42, 0 + (0 : Int).toNat * 1, [.int .i64 (idx y9.1 (0 : Int))])] [.p, .p, .c true, .p, .p, .c true, .p, .p, .p, .p, .c true, .p, .x, .l 0 0, .p, .p, .c false, .p, .p, .p, .p, .p, .p, .p, .p, .p, .p, .p, .p, .p, .p, .p, .p, .p, .p, .p, .p, .p, .p, .p, .p, .p, .p, .p, .p, .p, .p, .p] [(22, .int .i64 y9.2.2), (23, .bool (y9.2.2 == 0)), (24, .bool true), (25, .bool y9.2.1), (26, .bool y9.2.1), (27, .bool true), (28, .slice (some ⟨b42, 0, none⟩) y9.1.length c12), (29, .int .i64 (y9.1.length : Int)), (30, .bool ((y9.1.length : Int) == 3)), (31, .bool ((y9.1.length : Int) == 3)), (32, .bool true), (33, .slice (some ⟨b42, 0, none⟩) y9.1.length c12), (34, .pointer (some ⟨b42, 0 + (0 : Int).toNat * 1, none⟩)), (35, .int .i64 (idx y9.1 (0 : Int))), (36, .bool (idx y9.1 (0 : Int) == 2)), (37, .bool (idx y9.1 (0 : Int) == 2)), (38, .bool false), (39, undef), (40, undef), (41, undef), (42, undef), (43, .bool false), (44, .bool false), (45, undef), (46, undef), (47, .bool false), (48, .bool false), (49, undef), (50, undef), (51, undef), (52, .bool false), (53, .bool false), (54, undef), (55, undef), (56, undef), (57, .bool false), (58, .bool false), (59, undef), (60, undef), (61, undef), (62, undef), (63, .bool false), (64, .bool false), (65, undef), (66, undef), (67, undef), (68, .bool false), (0, .bool false)] [((bif (y9.2.2 == 0) == true then 0 else -1), 1), ((bif y9.2.1 == true then 0 else -1), 1), ((bif ((y9.1.length : Int) == 3) == true then 0 else -1), 1), (0, y9.1.length), ((bif (idx y9.1 (0 : Int) == 2) == false then 0 else -1), 1)] ⟨(rdS.flook (hI.row 2 rfl) (hI.rowlen 2 rfl) g41).ok, trivial⟩ ⟨(bndEq hc38), (bndEq hc39), (bndEq hc40), g41, (bndEq hc43), trivial⟩ (by kernel_rfl) (by kernel_rfl) (by kernel_rfl) ?_
          refine r_out (by kernel_rfl) ?_
          replace H := Option.some.inj H
          subst H
          exact go_return (.bool false) Tryd.func10 (by kernel_rfl) ⟨rfl, hI.pick [] (by decide) rfl⟩
      · refine o_batch 0 [] [.p, .p, .c true, .p, .p, .c true, .p, .p, .p, .p, .c false, .p, .p, .p, .p, .p, .p, .p, .p, .p, .p, .p, .p, .p, .p, .p, .p, .p, .p, .p, .p, .p, .p, .p, .p, .p, .p, .p, .p, .p, .p, .p, .p, .p, .p, .p, .p, .p] [(22, .int .i64 y9.2.2), (23, .bool (y9.2.2 == 0)), (24, .bool true), (25, .bool y9.2.1), (26, .bool y9.2.1), (27, .bool true), (28, .slice A11 y9.1.length c12), (29, .int .i64 (y9.1.length : Int)), (30, .bool ((y9.1.length : Int) == 3)), (31, .bool ((y9.1.length : Int) == 3)), (32, .bool false), (33, undef), (34, undef), (35, undef), (36, undef), (37, .bool false), (38, .bool false), (39, undef), (40, undef), (41, undef), (42, undef), (43, .bool false), (44, .bool false), (45, undef), (46, undef), (47, .bool false), (48, .bool false), (49, undef), (50, undef), (51, undef), (52, .bool false), (53, .bool false), (54, undef), (55, undef), (56, undef), (57, .bool false), (58, .bool false), (59, undef), (60, undef), (61, undef), (62, undef), (63, .bool false), (64, .bool false), (65, undef), (66, undef), (67, undef), (68, .bool false), (0, .bool false)] [((bif (y9.2.2 == 0) == true then 0 else -1), 1), ((bif y9.2.1 == true then 0 else -1), 1), ((bif ((y9.1.length : Int) == 3) == false then 0 else -1), 1)] trivial ⟨(bndEq hc38), (bndEq hc39), (bndEq hc40), trivial⟩ (by kernel_rfl) (by kernel_rfl) (by kernel_rfl) ?_
        refine r_out (by kernel_rfl) ?_
        replace H := Option.some.inj H
        subst H
        exact go_return (.bool false) Tryd.func10 (by kernel_rfl) ⟨rfl, hI.pick [] (by decide) rfl⟩
    · refine o_batch 0 [] [.p, .p, .c true, .p, .p, .c false, .p, .p, .p, .p, .p, .p, .p, .p, .p, .p, .p, .p, .p, .p, .p, .p, .p, .p, .p, .p, .p, .p, .p, .p, .p, .p, .p, .p, .p, .p, .p, .p, .p, .p, .p, .p, .p, .p, .p, .p, .p, .p] [(22, .int .i64 y9.2.2), (23, .bool (y9.2.2 == 0)), (24, .bool true), (25, .bool y9.2.1), (26, .bool y9.2.1), (27, .bool false), (28, undef), (29, undef), (30, undef), (31, .bool false), (32, .bool false), (33, undef), (34, undef), (35, undef), (36, undef), (37, .bool false), (38, .bool false), (39, undef), (40, undef), (41, undef), (42, undef), (43, .bool false), (44, .bool false), (45, undef), (46, undef), (47, .bool false), (48, .bool false), (49, undef), (50, undef), (51, undef), (52, .bool false), (53, .bool false), (54, undef), (55, undef), (56, undef), (57, .bool false), (58, .bool false), (59, undef), (60, undef), (61, undef), (62, undef), (63, .bool false), (64, .bool false), (65, undef), (66, undef), (67, undef), (68, .bool false), (0, .bool false)] [((bif (y9.2.2 == 0) == true then 0 else -1), 1), ((bif y9.2.1 == false then 0 else -1), 1)] trivial ⟨(bndEq hc38), (bndEq hc39), trivial⟩ (by kernel_rfl) (by kernel_rfl) (by kernel_rfl) ?_
      refine r_out (by kernel_rfl) ?_
      replace H := Option.some.inj H
      subst H
      exact go_return (.bool false) Tryd.func10 (by kernel_rfl) ⟨rfl, hI.pick [] (by decide) rfl⟩
  · refine o_batch 0 [] [.p, .p, .c false, .p, .p, .p, .p, .p, .p, .p, .p, .p, .p, .p, .p, .p, .p, .p, .p, .p, .p, .p, .p, .p, .p, .p, .p, .p, .p, .p, .p, .p, .p, .p, .p, .p, .p, .p, .p, .p, .p, .p, .p, .p, .p, .p, .p, .p] [(22, .int .i64 y9.2.2), (23, .bool (y9.2.2 == 0)), (24, .bool false), (25, undef), (26, .bool false), (27, .bool false), (28, undef), (29, undef), (30, undef), (31, .bool false), (32, .bool false), (33, undef), (34, undef), (35, undef), (36, undef), (37, .bool false), (38, .bool false), (39, undef), (40, undef), (41, undef), (42, undef), (43, .bool false), (44, .bool false), (45, undef), (46, undef), (47, .bool false), (48, .bool false), (49, undef), (50, undef), (51, undef), (52, .bool false), (53, .bool false), (54, undef), (55, undef), (56, undef), (57, .bool false), (58, .bool false), (59, undef), (60, undef), (61, undef), (62, undef), (63, .bool false), (64, .bool false), (65, undef), (66, undef), (67, undef), (68, .bool false), (0, .bool false)] [((bif (y9.2.2 == 0) == false then 0 else -1), 1)] trivial ⟨(bndEq hc38), trivial⟩ (by kernel_rfl) (by kernel_rfl) (by kernel_rfl) ?_
    refine r_out (by kernel_rfl) ?_
    replace H := Option.some.inj H
    subst H
    exact go_return (.bool false) Tryd.func10 (by kernel_rfl) ⟨rfl, hI.pick [] (by decide) rfl⟩

/-! ### graph.Closure -/
theorem enter14 (a : Array Value) : Sem.pureRun Tryd.prog (callFunc 14 a) = some (.enter 14 a) := by kernel_rfl
theorem graph_Closure_calls (a0 : Graph) (A0z0 : Option Addr) (c0z0 : Nat) (a1 : Int) (M : Mem) (w : World) (hI : Inv M w []) (hT : TabM M.blk) (hr0z0 : rdS kEdge M.blk A0z0 a0.Edges) (hl0z0 : a0.Edges.length ≤ c0z0) (r : (List (List Bool)) × Int) (H : graph_Closure a0 a1 = some r) :
    Calls Tryd.prog 14 #[.agg #[.int .i64 a0.N, .slice A0z0 a0.Edges.length c0z0], .int .i64 a1] w fun e w' => ∃ (A268 : Option Addr) (c269 : Nat), e = .returned (.tuple #[.slice A268 r.1.length c269, .int .i64 r.2]) ∧ Inv M w' [.row (tSlice 4 tBool) 27 A268 r.1.length c269 r.1] := by
  refine calls_go (updL (fun _ => undef) [(0, .agg #[.int .i64 a0.N, .slice A0z0 a0.Edges.length c0z0]), (1, .int .i64 a1)]) Tryd.func14 rfl (by kernel_rfl) ?_
  intro cs
  unfold graph_Closure at H
  refine go_seq ?_
  refine r_in ?_
  refine o_eff 0 _ rfl (by kernel_rfl) ?_
  refine e_box 24 _ (.agg #[.int .i64 a0.N, .slice A0z0 a0.Edges.length c0z0]) [.int .i64 a0.N, .slice A0z0 a0.Edges.length c0z0] rfl (by kernel_rfl) rfl hI ?_
  clear hI
  intro b2 _ hI
  refine o_batch 1 [] [.p, .p] [(4, .slice none 0 0), (5, .int .i64 0)] [] trivial trivial (by kernel_rfl) (by kernel_rfl) (by kernel_rfl) ?_
  refine r_out (by kernel_rfl) ?_
  refine go_seq ?_
  refine go_seq ?_
  refine r_in ?_
  refine o_batch 0 [(b2, 0, [.int .i64 a0.N, .slice A0z0 a0.Edges.length c0z0])] [.l 0 0] [(10, .agg #[.int .i64 a0.N, .slice A0z0 a0.Edges.length c0z0])] [] ⟨(hI.grp 0 rfl), trivial⟩ trivial (by kernel_rfl) (by kernel_rfl) (by kernel_rfl) ?_
  replace H := bind_some H
  obtain ⟨y8, hy9, H⟩ := H
  refine o_eff 1 _ rfl (by kernel_rfl) ?_
  refine e_callf _ _ _ 18 #[] #[] #[.agg #[.int .i64 a0.N, .slice A0z0 a0.Edges.length c0z0]] #[.agg #[.int .i64 a0.N, .slice A0z0 a0.Edges.length c0z0]] rfl (by kernel_rfl) (by kernel_rfl) (by kernel_rfl) (enter18 _) (graph_Check_calls a0 A0z0 c0z0 (memOf _) _ (Inv.start _) (hI.rd hr0z0) hl0z0 _ hy9) ?_
  rintro _ _ ⟨rfl, hI'⟩
  replace hI := hI.call0 hI'
  clear hI'
  refine ⟨_, rfl, ?_⟩
  refine o_batch 2 [] [.p] [(6, .int .i64 y8)] [] trivial trivial (by kernel_rfl) (by kernel_rfl) (by kernel_rfl) ?_
  refine r_out (by kernel_rfl) ?_
  refine go_seq ?_
  refine r_in ?_
  refine o_batch 0 [] [.p, .p] [(12, .int .i64 y8), (13, .bool (y8 != 0))] [] trivial trivial (by kernel_rfl) (by kernel_rfl) (by kernel_rfl) ?_
  refine r_out (by kernel_rfl) ?_
  replace H := cond_some H
  rcases H with ⟨hc10, H⟩ | ⟨hc10, H⟩
  · refine go_then' (t := (y8 != 0)) (by kernel_rfl) hc10 ?_
    refine go_seq ?_
    refine r_in ?_
    refine o_batch 0 [] [.p, .p, .p] [(14, .int .i64 y8), (4, .slice none 0 0), (5, .int .i64 y8)] [] trivial trivial (by kernel_rfl) (by kernel_rfl) (by kernel_rfl) ?_
    refine r_out (by kernel_rfl) ?_
    replace H := Option.some.inj H
    subst H
    exact go_return (.tuple #[.slice none 0 0, .int .i64 y8]) Tryd.func14 (by kernel_rfl) ⟨none, 0, rfl, (hI.nilrow (tSlice 4 tBool) 27).pick [1] (by decide) rfl⟩
  · refine go_else' (t := (y8 != 0)) (by kernel_rfl) hc10 ?_
    refine go_skip ?_
    refine go_seq ?_
    refine r_in ?_
    refine o_batch 0 [(b2, 0, [.int .i64 a0.N, .slice A0z0 a0.Edges.length c0z0])] [.l 0 0, .p] [(15, .agg #[.int .i64 a0.N, .slice A0z0 a0.Edges.length c0z0]), (16, .int .i64 a1)] [] ⟨(hI.grp 0 rfl), trivial⟩ trivial (by kernel_rfl) (by kernel_rfl) (by kernel_rfl) ?_
    replace H := bind_some H
    obtain ⟨y15, hy16, H⟩ := H
    refine o_eff 2 _ rfl (by kernel_rfl) ?_
    refine e_callf _ _ _ 32 #[] #[] #[.agg #[.int .i64 a0.N, .slice A0z0 a0.Edges.length c0z0], .int .i64 a1] #[.agg #[.int .i64 a0.N, .slice A0z0 a0.Edges.length c0z0], .int .i64 a1] rfl (by kernel_rfl) (by kernel_rfl) (by kernel_rfl) (enter32 _) (graph_rows_calls a0 A0z0 c0z0 a1 (memOf _) _ (Inv.start _) (hI.rd hr0z0) hl0z0 _ hy16) ?_
    rintro _ _ ⟨A17, c18, rfl, hI'⟩
    replace hI := hI.call0 hI'
    clear hI'
    refine ⟨_, rfl, ?_⟩
    refine o_batch 3 [] [.p] [(7, .slice A17 y15.length c18)] [] trivial trivial (by kernel_rfl) (by kernel_rfl) (by kernel_rfl) ?_
    refine r_out (by kernel_rfl) ?_
    refine go_seq ?_
    refine r_in ?_
    refine o_batch 0 [(b2, 0, [.int .i64 a0.N, .slice A0z0 a0.Edges.length c0z0])] [.p, .l 0 0] [(18, .pointer (some ⟨b2, 0, none⟩)), (19, .int .i64 a0.N)] [] ⟨(hI.grp 0 rfl), trivial⟩ trivial (by kernel_rfl) (by kernel_rfl) (by kernel_rfl) ?_
    replace H := must_some H
    obtain ⟨g21, H⟩ := H
    refine o_eff 2 _ rfl (by kernel_rfl) ?_
    refine e_make (tSlice 4 tBool) (default : List Bool) 31 27 _ _ _ (.slice none 0 0) a0.N rfl rfl rfl rfl rfl rfl (fun _ => ⟨none, 0, rfl, rowOwn.nil⟩) (by kernel_rfl) (by kernel_rfl) g21 hI ?_
    clear hI
    intro b22 _ hI
    refine o_batch 3 [] [.p] [(8, .slice (some ⟨b22, 0, none⟩) a0.N.toNat a0.N.toNat)] [] trivial trivial (by kernel_rfl) (by kernel_rfl) (by kernel_rfl) ?_
    refine r_out (by kernel_rfl) ?_
    refine go_seq ?_
    refine go_seq ?_
    refine r_in ?_
    refine o_batch 0 [] [.p, .p, .p] [(21, .slice (some ⟨b22, 0, none⟩) a0.N.toNat a0.N.toNat), (22, .int .i64 (a0.N.toNat : Int)), (23, .int .i64 0)] [] trivial trivial (by kernel_rfl) (by kernel_rfl) (by kernel_rfl) ?_
    refine r_out (by kernel_rfl) ?_
    refine go_block ?_
    refine go_is 8 (.slice (some ⟨b22, 0, none⟩) a0.N.toNat a0.N.toNat) (.slice (some ⟨b22, 0, none⟩) ((List.replicate a0.N.toNat (default : List Bool)).length) a0.N.toNat) (by kernel_rfl) (by first | rfl | simp only [List.length_set, List.length_replicate, List.length_nil]) ?_
    replace hI := hI.renum 2 rfl
    refine go_iter (graph_Closure.s1 a0 y15) (fun (l216, x219) f w => ∃ (j : Nat → Value) (A217 : Option Addr) (c218 : Nat), f = updL j [(2, .pointer (some ⟨b2, 0, none⟩)), (7, .slice A17 y15.length c18), (8, .slice A217 l216.length c218), (22, .int .i64 (a0.N.toNat : Int)), (23, .int .i64 x219)] ∧ Inv M w [.blk b2 24 [.int .i64 a0.N, .slice A0z0 a0.Edges.length c0z0], .row (tInt .u64) 54 A17 y15.length c18 y15, .row (tSlice 4 tBool) 27 A217 l216.length c218 l216]) H ⟨_, (some ⟨b22, 0, none⟩), a0.N.toNat, at_slots _ (by kernel_rfl), hI⟩ ?_
    clear H hI
    rintro ⟨l216, x219⟩ _ _ o1 H ⟨_, A217, c218, rfl, hI⟩ hin1 hout1
    refine go_seq ?_
    refine r_in ?_
    refine o_batch 0 [] [.p] [(24, .bool (decide (x219 < (a0.N.toNat : Int))))] [] trivial trivial (by kernel_rfl) (by kernel_rfl) (by kernel_rfl) ?_
    refine r_out (by kernel_rfl) ?_
    refine go_seq ?_
    replace H := cond_some H
    rcases H with ⟨hc221, H⟩ | ⟨hc221, H⟩
    · refine go_then' (t := decide (x219 < (a0.N.toNat : Int))) (by kernel_rfl) hc221 ?_
      refine go_skip ?_
      refine go_seq ?_
      refine go_block ?_
      refine go_seq ?_
      refine r_in ?_
      refine o_batch 0 [] [.p, .p] [(25, .int .i64 x219), (9, .int .i64 x219)] [] trivial trivial (by kernel_rfl) (by kernel_rfl) (by kernel_rfl) ?_
      refine r_out (by kernel_rfl) ?_
      replace H := bind_some H
      obtain ⟨y252, hy253, H⟩ := H
      replace H := bind_some H
      obtain ⟨y254, hy255, H⟩ := H
      replace H := must_some H
      obtain ⟨g258, H⟩ := H
      obtain ⟨b259, rfl⟩ := hI.rowAt 2 rfl g258
      obtain ⟨cs262, hk261, hg260⟩ := rdS.look (hI.row 2 rfl) (hI.rowlen 2 rfl) g258
      obtain ⟨A263, c264, rfl, hl266, hr265⟩ := hk261
      refine go_held (fun w => Inv M w [.blk b2 24 [.int .i64 a0.N, .slice A0z0 a0.Edges.length c0z0], .row (tInt .u64) 54 A17 y15.length c18 y15]) (by kernel_rfl) ?_
      replace hI := hI.drew'
      refine held_batch (n := 4) [(b2, 0, [.int .i64 a0.N, .slice A0z0 a0.Edges.length c0z0])] [(0, .p), (1, .p), (2, .p), (3, .p), (5, .p), (6, .l 0 0)] [(26, .slice (some ⟨b259, 0, none⟩) l216.length c218), (27, .int .i64 x219), (28, .slice A17 y15.length c18), (29, .int .i64 x219), (31, .pointer (some ⟨b2, 0, none⟩)), (32, .int .i64 a0.N)] [] [true, true, true, true, false, true, true, false, false, false] (by kernel_rfl) (fun w hS => ⟨(hS.grp 0 rfl), trivial⟩) (hI.pick [0, 1] (by decide) rfl) trivial (by kernel_rfl) (by kernel_rfl) (by kernel_rfl) ?_
      refine held_one (n := 3) 4 _ rfl (by kernel_rfl) (by kernel_rfl) (e_callf _ _ _ 31 #[] #[] #[.slice A17 y15.length c18, .int .i64 x219] #[.slice A17 y15.length c18, .int .i64 x219] rfl (by kernel_rfl) (by kernel_rfl) (by kernel_rfl) (enter31 _) (graph_from_calls A17 c18 y15 x219 (memOf _) _ (Inv.start _) (hI.rd hT) (hI.row 1 rfl) (hI.rowle 1 rfl) _ hy253) ?_)
      rintro _ _ ⟨rfl, hI'⟩
      replace hI := hI.call0 hI'
      clear hI'
      refine ⟨_, rfl, ?_⟩
      refine ⟨(hI.pick [0, 1] (by decide) rfl), ?_⟩
      refine held_one (n := 2) 7 _ rfl (by kernel_rfl) (by kernel_rfl) (e_callf _ _ _ 30 #[] #[] #[.int .u64 y252, .int .i64 a0.N] #[.int .u64 y252, .int .i64 a0.N] rfl (by kernel_rfl) (by kernel_rfl) (by kernel_rfl) (enter30 _) (graph_spread_calls y252 a0.N (memOf _) _ (Inv.start _) _ hy255) ?_)
      rintro _ _ ⟨A256, c257, rfl, hI'⟩
      replace hI := hI.call0 hI'
      clear hI'
      refine ⟨_, rfl, ?_⟩
      refine ⟨(hI.pick [0, 1] (by decide) rfl), ?_⟩
      refine held_batch (n := 1) [] [(8, .x)] [(34, .pointer (some ⟨b259, 0 + x219.toNat * 1, none⟩))] [(x219, l216.length)] [true, true, true, true, true, true, true, true, true, false] (by kernel_rfl) (fun w hS => trivial) (hI.pick [0, 1] (by decide) rfl) ⟨g258, trivial⟩ (by kernel_rfl) (by kernel_rfl) (by kernel_rfl) ?_
      refine held_one (n := 0) 9 _ rfl (by kernel_rfl) (by kernel_rfl) (e_putown 27 _ _ 2 [3] [0, 1] b259 27 l216.length c218 l216 y254 x219 (.slice A256 y254.length c257) [.row tBool 4 A256 y254.length c257 y254] [.blk b2 24 [.int .i64 a0.N, .slice A0z0 a0.Edges.length c0z0], .row (tInt .u64) 54 A17 y15.length c18 y15] rfl (by kernel_rfl) (by kernel_rfl) (by kernel_rfl) (by kernel_rfl) hI (by decide) rfl g258 mk_row ?_)
      clear hI
      intro _ hI
      refine ⟨(hI.pick [1, 2] (by decide) rfl), ?_⟩
      refine held_done (by kernel_rfl) ?_
      refine go_inBlock ?_
      refine r_in ?_
      refine o_batch 0 [] [.p, .p] [(35, .int .i64 (w64 (x219 + 1))), (23, .int .i64 (w64 (x219 + 1)))] [] trivial trivial (by kernel_rfl) (by kernel_rfl) (by kernel_rfl) ?_
      refine r_out (by kernel_rfl) ?_
      refine go_is 8 (.slice (some ⟨b259, 0, none⟩) l216.length c218) (.slice (some ⟨b259, 0, none⟩) ((l216.set x219.toNat y254).length) c218) (by kernel_rfl) (by first | rfl | simp only [List.length_set, List.length_replicate, List.length_nil]) ?_
      replace hI := hI.renum 0 rfl
      exact hin1 _ (Option.some.inj H).symm _ _ ⟨_, (some ⟨b259, 0, none⟩), c218, at_slots _ (by kernel_rfl), hI.pick [1, 2, 0] (by decide) rfl⟩
    · refine go_else' (t := decide (x219 < (a0.N.toNat : Int))) (by kernel_rfl) hc221 ?_
      refine go_exit rfl ?_
      refine go_seq ?_
      refine r_in ?_
      refine o_batch 0 [] [.p, .p, .p] [(36, .slice A217 l216.length c218), (4, .slice A217 l216.length c218), (5, .int .i64 0)] [] trivial trivial (by kernel_rfl) (by kernel_rfl) (by kernel_rfl) ?_
      refine r_out (by kernel_rfl) ?_
      replace H := out_some H
      obtain ⟨_, H, he1⟩ := H
      have he := (hout1 _ he1).symm
      subst he
      replace H := Option.some.inj H
      subst H
      exact go_return (.tuple #[.slice A217 l216.length c218, .int .i64 0]) Tryd.func14 (by kernel_rfl) ⟨A217, c218, rfl, hI.pick [2] (by decide) rfl⟩

/-! ### assizeref06.Check -/
theorem enter19 (a : Array Value) : Sem.pureRun Tryd.prog (callFunc 19 a) = some (.enter 19 a) := by kernel_rfl
theorem assizeref06zCheck_calls (a0 : Graph) (A0z0 : Option Addr) (c0z0 : Nat) (M : Mem) (w : World) (hI : Inv M w []) (hr0z0 : rdS kEdge M.blk A0z0 a0.Edges) (hl0z0 : a0.Edges.length ≤ c0z0) (r : Int) (H : assizeref06zCheck a0 = some r) :
    Calls Tryd.prog 19 #[.agg #[.int .i64 a0.N, .slice A0z0 a0.Edges.length c0z0]] w fun e w' => e = .returned (.int .i64 r) ∧ Inv M w' [] := by
  refine calls_go (updL (fun _ => undef) [(0, .agg #[.int .i64 a0.N, .slice A0z0 a0.Edges.length c0z0])]) Tryd.func19 rfl (by kernel_rfl) ?_
  intro cs
  unfold assizeref06zCheck at H
  refine go_seq ?_
  refine r_in ?_
  refine o_eff 0 _ rfl (by kernel_rfl) ?_
  refine e_box 24 _ (.agg #[.int .i64 a0.N, .slice A0z0 a0.Edges.length c0z0]) [.int .i64 a0.N, .slice A0z0 a0.Edges.length c0z0] rfl (by kernel_rfl) rfl hI ?_
  clear hI
  intro b2 _ hI
  refine o_batch 1 [] [.p] [(2, .int .i64 0)] [] trivial trivial (by kernel_rfl) (by kernel_rfl) (by kernel_rfl) ?_
  refine r_out (by kernel_rfl) ?_
  refine go_seq ?_
  refine go_seq_join (o := r) (fun b9 f w => ∃ (j : Nat → Value), f = updL j [(1, .pointer (some ⟨b2, 0, none⟩)), (18, .bool b9)] ∧ Inv M w [.blk b2 24 [.int .i64 a0.N, .slice A0z0 a0.Edges.length c0z0]]) (fun b9 => assizeref06zCheck.j1 a0 b9) ?_ (fun hJ10 => ?_)
  · clear H hI
    rintro b9 _ _ ⟨_, rfl, hI⟩ H
    replace H := cond_some H
    rcases H with ⟨hc11, H⟩ | ⟨hc11, H⟩
    · refine go_then' (t := b9) (by kernel_rfl) hc11 ?_
      refine go_seq ?_
      refine r_in ?_
      refine o_batch 0 [] [.p] [(2, .int .i64 60)] [] trivial trivial (by kernel_rfl) (by kernel_rfl) (by kernel_rfl) ?_
      refine r_out (by kernel_rfl) ?_
      replace H := Option.some.inj H
      subst H
      exact go_return (.int .i64 60) Tryd.func19 (by kernel_rfl) ⟨rfl, hI.pick [] (by decide) rfl⟩
    · refine go_else' (t := b9) (by kernel_rfl) hc11 ?_
      refine go_skip ?_
      refine go_seq ?_
      refine go_seq ?_
      refine r_in ?_
      refine o_batch 0 [] [.p] [(3, .int .i64 0)] [] trivial trivial (by kernel_rfl) (by kernel_rfl) (by kernel_rfl) ?_
      refine r_out (by kernel_rfl) ?_
      refine go_block ?_
      refine go_iter (assizeref06zCheck.s2 a0) (fun x133 f w => ∃ (j : Nat → Value), f = updL j [(1, .pointer (some ⟨b2, 0, none⟩)), (3, .int .i64 x133)] ∧ Inv M w [.blk b2 24 [.int .i64 a0.N, .slice A0z0 a0.Edges.length c0z0]]) H ⟨_, at_slots _ (by kernel_rfl), hI⟩ ?_
      clear H hI
      rintro x133 _ _ o1 H ⟨_, rfl, hI⟩ hin1 hout1
      refine go_seq ?_
      refine go_seq ?_
      refine r_in ?_
      refine o_batch 0 [(b2, 0, [.int .i64 a0.N, .slice A0z0 a0.Edges.length c0z0])] [.p, .p, .l 0 1, .p, .p] [(19, .int .i64 x133), (20, .pointer (some ⟨b2, 1, none⟩)), (21, .slice A0z0 a0.Edges.length c0z0), (22, .int .i64 (a0.Edges.length : Int)), (23, .bool (decide (x133 < (a0.Edges.length : Int))))] [] ⟨(hI.grp 0 rfl), trivial⟩ trivial (by kernel_rfl) (by kernel_rfl) (by kernel_rfl) ?_
      refine r_out (by kernel_rfl) ?_
      replace H := cond_some H
      rcases H with ⟨hc135, H⟩ | ⟨hc135, H⟩
      · refine go_then' (t := decide (x133 < (a0.Edges.length : Int))) (by kernel_rfl) hc135 ?_
        refine go_skip ?_
        refine go_seq ?_
        refine go_block ?_
        refine go_seq ?_
        refine r_in ?_
        replace H := must_some H
        obtain ⟨g164, H⟩ := H
        obtain ⟨b165, q166, rfl, _⟩ := rdS.fopen hr0z0 rfl g164
        refine o_batch 0 [(b2, 0, [.int .i64 a0.N, .slice (some ⟨b165, q166, none⟩) a0.Edges.length c0z0]), (b165, q166 + x133.toNat * 4, [.int .i64 ((idx a0.Edges x133).From), .int .i64 ((idx a0.Edges x133).To), .int .i64 ((idx a0.Edges x133).Kind), .int .i64 ((idx a0.Edges x133).Key)])] [.p, .l 0 1, .p, .x, .l 1 0] [(26, .pointer (some ⟨b2, 1, none⟩)), (27, .slice (some ⟨b165, q166, none⟩) a0.Edges.length c0z0), (28, .int .i64 x133), (29, .pointer (some ⟨b165, q166 + x133.toNat * 4, none⟩)), (30, .agg #[.int .i64 ((idx a0.Edges x133).From), .int .i64 ((idx a0.Edges x133).To), .int .i64 ((idx a0.Edges x133).Kind), .int .i64 ((idx a0.Edges x133).Key)])] [(x133, a0.Edges.length)] ⟨(hI.grp 0 rfl), (hI.lies (rdS.flook hr0z0 rfl g164)), trivial⟩ ⟨g164, trivial⟩ (by kernel_rfl) (by kernel_rfl) (by kernel_rfl) ?_
        refine o_eff 5 _ rfl (by kernel_rfl) ?_
        refine e_alloc 40 (.agg #[.int .i64 0, .int .i64 0, .int .i64 0, .int .i64 0]) [.int .i64 0, .int .i64 0, .int .i64 0, .int .i64 0] rfl (by kernel_rfl) rfl hI ?_
        clear hI
        intro b167 _ hI
        refine o_eff 6 _ rfl (by kernel_rfl) ?_
        refine e_store 40 _ _ 1 b167 40 [.int .i64 0, .int .i64 0, .int .i64 0, .int .i64 0] [.int .i64 ((idx a0.Edges x133).From), .int .i64 ((idx a0.Edges x133).To), .int .i64 ((idx a0.Edges x133).Kind), .int .i64 ((idx a0.Edges x133).Key)] 0 (.agg #[.int .i64 ((idx a0.Edges x133).From), .int .i64 ((idx a0.Edges x133).To), .int .i64 ((idx a0.Edges x133).Kind), .int .i64 ((idx a0.Edges x133).Key)]) rfl (by kernel_rfl) (by kernel_rfl) (by kernel_rfl) (by kernel_rfl) hI rfl (by kernel_rfl) (by kernel_rfl) ?_
        clear hI
        intro _ hI
        refine r_out (by kernel_rfl) ?_
        refine go_seq_join (o := o1) (fun b174 f w => ∃ (j : Nat → Value), f = updL j [(1, .pointer (some ⟨b2, 0, none⟩)), (3, .int .i64 x133), (71, .bool b174)] ∧ Inv M w [.blk b2 24 [.int .i64 a0.N, .slice (some ⟨b165, q166, none⟩) a0.Edges.length c0z0]]) (fun b174 => assizeref06zCheck.j3 x133 b174) ?_ (fun hJ175 => ?_)
        · clear H hI
          rintro b174 _ _ ⟨_, rfl, hI⟩ H
          replace H := cond_some H
          rcases H with ⟨hc176, H⟩ | ⟨hc176, H⟩
          · refine go_then' (t := b174) (by kernel_rfl) hc176 ?_
            refine go_seq ?_
            refine r_in ?_
            refine o_batch 0 [] [.p] [(2, .int .i64 60)] [] trivial trivial (by kernel_rfl) (by kernel_rfl) (by kernel_rfl) ?_
            refine r_out (by kernel_rfl) ?_
            replace H := out_some H
            obtain ⟨_, H, he1⟩ := H
            have he := (hout1 _ he1).symm
            subst he
            replace H := Option.some.inj H
            subst H
            exact go_return (.int .i64 60) Tryd.func19 (by kernel_rfl) ⟨rfl, hI.pick [] (by decide) rfl⟩
          · refine go_else' (t := b174) (by kernel_rfl) hc176 ?_
            refine go_skip ?_
            refine go_inBlock ?_
            refine r_in ?_
            refine o_batch 0 [] [.p, .p, .p] [(24, .int .i64 x133), (25, .int .i64 (w64 (x133 + 1))), (3, .int .i64 (w64 (x133 + 1)))] [] trivial trivial (by kernel_rfl) (by kernel_rfl) (by kernel_rfl) ?_
            refine r_out (by kernel_rfl) ?_
            exact hin1 _ (Option.some.inj H).symm _ _ ⟨_, at_slots _ (by kernel_rfl), hI⟩
        · refine r_in ?_
          replace H := cond_some H
          rcases H with ⟨hc177, H⟩ | ⟨hc177, H⟩
          · refine o_batch 0 [(b167, 0, [.int .i64 ((idx a0.Edges x133).From), .int .i64 ((idx a0.Edges x133).To), .int .i64 ((idx a0.Edges x133).Kind), .int .i64 ((idx a0.Edges x133).Key)])] [.p, .l 0 0, .p, .c true, .p, .p, .p, .p, .p, .p, .p, .p, .p, .p, .p, .p, .p, .p, .p, .p, .p, .p, .p, .p, .p, .p, .p, .p, .p, .p, .p, .p, .p, .p, .p, .p, .p, .p, .p, .p, .p] [(31, .pointer (some ⟨b167, 0, none⟩)), (32, .int .i64 ((idx a0.Edges x133).From)), (33, .bool (decide ((idx a0.Edges x133).From < 0))), (34, .bool true), (35, undef), (36, undef), (37, undef), (38, undef), (39, undef), (40, .bool true), (41, .bool true), (42, undef), (43, undef), (44, undef), (45, .bool true), (46, .bool true), (47, undef), (48, undef), (49, undef), (50, undef), (51, undef), (52, .bool true), (53, .bool true), (54, undef), (55, undef), (56, undef), (57, .bool true), (58, .bool true), (59, undef), (60, undef), (61, undef), (62, .bool true), (63, .bool true), (64, undef), (65, undef), (66, undef), (67, undef), (68, undef), (69, undef), (70, undef), (71, .bool true)] [((bif (decide ((idx a0.Edges x133).From < 0)) == true then 0 else -1), 1)] ⟨(hI.grp 1 rfl), trivial⟩ ⟨(bndEq hc177), trivial⟩ (by kernel_rfl) (by kernel_rfl) (by kernel_rfl) ?_
            refine r_out (by kernel_rfl) ?_
            exact hJ175 true _ _ ⟨_, at_slots _ (by kernel_rfl), hI.pick [0] (by decide) rfl⟩ H
          · replace H := cond_some H
            rcases H with ⟨hc178, H⟩ | ⟨hc178, H⟩
            · refine o_batch 0 [(b167, 0, [.int .i64 ((idx a0.Edges x133).From), .int .i64 ((idx a0.Edges x133).To), .int .i64 ((idx a0.Edges x133).Kind), .int .i64 ((idx a0.Edges x133).Key)]), (b2, 0, [.int .i64 a0.N, .slice (some ⟨b165, q166, none⟩) a0.Edges.length c0z0])] [.p, .l 0 0, .p, .c false, .p, .l 0 0, .p, .l 1 0, .p, .p, .c true, .p, .p, .p, .p, .p, .p, .p, .p, .p, .p, .p, .p, .p, .p, .p, .p, .p, .p, .p, .p, .p, .p, .p, .p, .p, .p, .p, .p, .p, .p] [(31, .pointer (some ⟨b167, 0, none⟩)), (32, .int .i64 ((idx a0.Edges x133).From)), (33, .bool (decide ((idx a0.Edges x133).From < 0))), (34, .bool false), (35, .pointer (some ⟨b167, 0, none⟩)), (36, .int .i64 ((idx a0.Edges x133).From)), (37, .pointer (some ⟨b2, 0, none⟩)), (38, .int .i64 a0.N), (39, .bool (decide ((idx a0.Edges x133).From ≥ a0.N))), (40, .bool (decide ((idx a0.Edges x133).From ≥ a0.N))), (41, .bool true), (42, undef), (43, undef), (44, undef), (45, .bool true), (46, .bool true), (47, undef), (48, undef), (49, undef), (50, undef), (51, undef), (52, .bool true), (53, .bool true), (54, undef), (55, undef), (56, undef), (57, .bool true), (58, .bool true), (59, undef), (60, undef), (61, undef), (62, .bool true), (63, .bool true), (64, undef), (65, undef), (66, undef), (67, undef), (68, undef), (69, undef), (70, undef), (71, .bool true)] [((bif (decide ((idx a0.Edges x133).From < 0)) == false then 0 else -1), 1), ((bif (decide ((idx a0.Edges x133).From ≥ a0.N)) == true then 0 else -1), 1)] ⟨(hI.grp 1 rfl), (hI.grp 0 rfl), trivial⟩ ⟨(bndEq hc177), (bndEq hc178), trivial⟩ (by kernel_rfl) (by kernel_rfl) (by kernel_rfl) ?_
              refine r_out (by kernel_rfl) ?_
              exact hJ175 true _ _ ⟨_, at_slots _ (by kernel_rfl), hI.pick [0] (by decide) rfl⟩ H
            · replace H := cond_some H
              rcases H with ⟨hc179, H⟩ | ⟨hc179, H⟩
              · refine o_batch 0 [(b167, 0, [.int .i64 ((idx a0.Edges x133).From), .int .i64 ((idx a0.Edges x133).To), .int .i64 ((idx a0.Edges x133).Kind), .int .i64 ((idx a0.Edges x133).Key)]), (b2, 0, [.int .i64 a0.N, .slice (some ⟨b165, q166, none⟩) a0.Edges.length c0z0])] [.p, .l 0 0, .p, .c false, .p, .l 0 0, .p, .l 1 0, .p, .p, .c false, .p, .l 0 1, .p, .p, .c true, .p, .p, .p, .p, .p, .p, .p, .p, .p, .p, .p, .p, .p, .p, .p, .p, .p, .p, .p, .p, .p, .p, .p, .p, .p] [(31, .pointer (some ⟨b167, 0, none⟩)), (32, .int .i64 ((idx a0.Edges x133).From)), (33, .bool (decide ((idx a0.Edges x133).From < 0))), (34, .bool false), (35, .pointer (some ⟨b167, 0, none⟩)), (36, .int .i64 ((idx a0.Edges x133).From)), (37, .pointer (some ⟨b2, 0, none⟩)), (38, .int .i64 a0.N), (39, .bool (decide ((idx a0.Edges x133).From ≥ a0.N))), (40, .bool (decide ((idx a0.Edges x133).From ≥ a0.N))), (41, .bool false), (42, .pointer (some ⟨b167, 1, none⟩)), (43, .int .i64 ((idx a0.Edges x133).To)), (44, .bool (decide ((idx a0.Edges x133).To < 0))), (45, .bool (decide ((idx a0.Edges x133).To < 0))), (46, .bool true), (47, undef), (48, undef), (49, undef), (50, undef), (51, undef), (52, .bool true), (53, .bool true), (54, undef), (55, undef), (56, undef), (57, .bool true), (58, .bool true), (59, undef), (60, undef), (61, undef), (62, .bool true), (63, .bool true), (64, undef), (65, undef), (66, undef), (67, undef), (68, undef), (69, undef), (70, undef), (71, .bool true)] [((bif (decide ((idx a0.Edges x133).From < 0)) == false then 0 else -1), 1), ((bif (decide ((idx a0.Edges x133).From ≥ a0.N)) == false then 0 else -1), 1), ((bif (decide ((idx a0.Edges x133).To < 0)) == true then 0 else -1), 1)] ⟨(hI.grp 1 rfl), (hI.grp 0 rfl), trivial⟩ ⟨(bndEq hc177), (bndEq hc178), (bndEq hc179), trivial⟩ (by kernel_rfl) (by kernel_rfl) (by kernel_rfl) ?_
                refine r_out (by kernel_rfl) ?_
                exact hJ175 true _ _ ⟨_, at_slots _ (by kernel_rfl), hI.pick [0] (by decide) rfl⟩ H
              · replace H := cond_some H
                rcases H with ⟨hc180, H⟩ | ⟨hc180, H⟩
                · refine o_batch 0 [(b167, 0, [.int .i64 ((idx a0.Edges x133).From), .int .i64 ((idx a0.Edges x133).To), .int .i64 ((idx a0.Edges x133).Kind), .int .i64 ((idx a0.Edges x133).Key)]), (b2, 0, [.int .i64 a0.N, .slice (some ⟨b165, q166, none⟩) a0.Edges.length c0z0])] [.p, .l 0 0, .p, .c false, .p, .l 0 0, .p, .l 1 0, .p, .p, .c false, .p, .l 0 1, .p, .p, .c false, .p, .l 0 1, .p, .l 1 0, .p, .p, .c true, .p, .p, .p, .p, .p, .p, .p, .p, .p, .p, .p, .p, .p, .p, .p, .p, .p, .p] [(31, .pointer (some ⟨b167, 0, none⟩)), (32, .int .i64 ((idx a0.Edges x133).From)), (33, .bool (decide ((idx a0.Edges x133).From < 0))), (34, .bool false), (35, .pointer (some ⟨b167, 0, none⟩)), (36, .int .i64 ((idx a0.Edges x133).From)), (37, .pointer (some ⟨b2, 0, none⟩)), (38, .int .i64 a0.N), (39, .bool (decide ((idx a0.Edges x133).From ≥ a0.N))), (40, .bool (decide ((idx a0.Edges x133).From ≥ a0.N))), (41, .bool false), (42, .pointer (some ⟨b167, 1, none⟩)), (43, .int .i64 ((idx a0.Edges x133).To)), (44, .bool (decide ((idx a0.Edges x133).To < 0))), (45, .bool (decide ((idx a0.Edges x133).To < 0))), (46, .bool false), (47, .pointer (some ⟨b167, 1, none⟩)), (48, .int .i64 ((idx a0.Edges x133).To)), (49, .pointer (some ⟨b2, 0, none⟩)), (50, .int .i64 a0.N), (51, .bool (decide ((idx a0.Edges x133).To ≥ a0.N))), (52, .bool (decide ((idx a0.Edges x133).To ≥ a0.N))), (53, .bool true), (54, undef), (55, undef), (56, undef), (57, .bool true), (58, .bool true), (59, undef), (60, undef), (61, undef), (62, .bool true), (63, .bool true), (64, undef), (65, undef), (66, undef), (67, undef), (68, undef), (69, undef), (70, undef), (71, .bool true)] [((bif (decide ((idx a0.Edges x133).From < 0)) == false then 0 else -1), 1), ((bif (decide ((idx a0.Edges x133).From ≥ a0.N)) == false then 0 else -1), 1), ((bif (decide ((idx a0.Edges x133).To < 0)) == false then 0 else -1), 1), ((bif (decide ((idx a0.Edges x133).To ≥ a0.N)) == true then 0 else -1), 1)] ⟨(hI.grp 1 rfl), (hI.grp 0 rfl), trivial⟩ ⟨(bndEq hc177), (bndEq hc178), (bndEq hc179), (bndEq hc180), trivial⟩ (by kernel_rfl) (by kernel_rfl) (by kernel_rfl) ?_
                  refine r_out (by kernel_rfl) ?_
                  exact hJ175 true _ _ ⟨_, at_slots _ (by kernel_rfl), hI.pick [0] (by decide) rfl⟩ H
                · replace H := cond_some H
                  rcases H with ⟨hc181, H⟩ | ⟨hc181, H⟩
                  · refine o_batch 0 [(b167, 0, [.int .i64 ((idx a0.Edges x133).From), .int .i64 ((idx a0.Edges x133).To), .int .i64 ((idx a0.Edges x133).Kind), .int .i64 ((idx a0.Edges x133).Key)]), (b2, 0, [.int .i64 a0.N, .slice (some ⟨b165, q166, none⟩) a0.Edges.length c0z0])] [.p, .l 0 0, .p, .c false, .p, .l 0 0, .p, .l 1 0, .p, .p, .c false, .p, .l 0 1, .p, .p, .c false, .p, .l 0 1, .p, .l 1 0, .p, .p, .c false, .p, .l 0 2, .p, .p, .c true, .p, .p, .p, .p, .p, .p, .p, .p, .p, .p, .p, .p, .p] [(31, .pointer (some ⟨b167, 0, none⟩)), (32, .int .i64 ((idx a0.Edges x133).From)), (33, .bool (decide ((idx a0.Edges x133).From < 0))), (34, .bool false), (35, .pointer (some ⟨b167, 0, none⟩)), (36, .int .i64 ((idx a0.Edges x133).From)), (37, .pointer (some ⟨b2, 0, none⟩)), (38, .int .i64 a0.N), (39, .bool (decide ((idx a0.Edges x133).From ≥ a0.N))), (40, .bool (decide ((idx a0.Edges x133).From ≥ a0.N))), (41, .bool false), (42, .pointer (some ⟨b167, 1, none⟩)), (43, .int .i64 ((idx a0.Edges x133).To)), (44, .bool (decide ((idx a0.Edges x133).To < 0))), (45, .bool (decide ((idx a0.Edges x133).To < 0))), (46, .bool false), (47, .pointer (some ⟨b167, 1, none⟩)), (48, .int .i64 ((idx a0.Edges x133).To)), (49, .pointer (some ⟨b2, 0, none⟩)), (50, .int .i64 a0.N), (51, .bool (decide ((idx a0.Edges x133).To ≥ a0.N))), (52, .bool (decide ((idx a0.Edges x133).To ≥ a0.N))), (53, .bool false), (54, .pointer (some ⟨b167, 2, none⟩)), (55, .int .i64 ((idx a0.Edges x133).Kind)), (56, .bool (decide ((idx a0.Edges x133).Kind < 1))), (57, .bool (decide ((idx a0.Edges x133).Kind < 1))), (58, .bool true), (59, undef), (60, undef), (61, undef), (62, .bool true), (63, .bool true), (64, undef), (65, undef), (66, undef), (67, undef), (68, undef), (69, undef), (70, undef), (71, .bool true)] [((bif (decide ((idx a0.Edges x133).From < 0)) == false then 0 else -1), 1), ((bif (decide ((idx a0.Edges x133).From ≥ a0.N)) == false then 0 else -1), 1), ((bif (decide ((idx a0.Edges x133).To < 0)) == false then 0 else -1), 1), ((bif (decide ((idx a0.Edges x133).To ≥ a0.N)) == false then 0 else -1), 1), ((bif (decide ((idx a0.Edges x133).Kind < 1)) == true then 0 else -1), 1)] ⟨(hI.grp 1 rfl), (hI.grp 0 rfl), trivial⟩ ⟨(bndEq hc177), (bndEq hc178), (bndEq hc179), (bndEq hc180), (bndEq hc181), trivial⟩ (by kernel_rfl) (by kernel_rfl) (by kernel_rfl) ?_
                    refine r_out (by kernel_rfl) ?_
                    exact hJ175 true _ _ ⟨_, at_slots _ (by kernel_rfl), hI.pick [0] (by decide) rfl⟩ H
                  · replace H := cond_some H
                    rcases H with ⟨hc182, H⟩ | ⟨hc182, H⟩
                    · refine o_batch 0 [(b167, 0, [.int .i64 ((idx a0.Edges x133).From), .int .i64 ((idx a0.Edges x133).To), .int .i64 ((idx a0.Edges x133).Kind), .int .i64 ((idx a0.Edges x133).Key)]), (b2, 0, [.int .i64 a0.N, .slice (some ⟨b165, q166, none⟩) a0.Edges.length c0z0])] [.p, .l 0 0, .p, .c false, .p, .l 0 0, .p, .l 1 0, .p, .p, .c false, .p, .l 0 1, .p, .p, .c false, .p, .l 0 1, .p, .l 1 0, .p, .p, .c false, .p, .l 0 2, .p, .p, .c false, .p, .l 0 2, .p, .p, .c true, .p, .p, .p, .p, .p, .p, .p, .p] [(31, .pointer (some ⟨b167, 0, none⟩)), (32, .int .i64 ((idx a0.Edges x133).From)), (33, .bool (decide ((idx a0.Edges x133).From < 0))), (34, .bool false), (35, .pointer (some ⟨b167, 0, none⟩)), (36, .int .i64 ((idx a0.Edges x133).From)), (37, .pointer (some ⟨b2, 0, none⟩)), (38, .int .i64 a0.N), (39, .bool (decide ((idx a0.Edges x133).From ≥ a0.N))), (40, .bool (decide ((idx a0.Edges x133).From ≥ a0.N))), (41, .bool false), (42, .pointer (some ⟨b167, 1, none⟩)), (43, .int .i64 ((idx a0.Edges x133).To)), (44, .bool (decide ((idx a0.Edges x133).To < 0))), (45, .bool (decide ((idx a0.Edges x133).To < 0))), (46, .bool false), (47, .pointer (some ⟨b167, 1, none⟩)), (48, .int .i64 ((idx a0.Edges x133).To)), (49, .pointer (some ⟨b2, 0, none⟩)), (50, .int .i64 a0.N), (51, .bool (decide ((idx a0.Edges x133).To ≥ a0.N))), (52, .bool (decide ((idx a0.Edges x133).To ≥ a0.N))), (53, .bool false), (54, .pointer (some ⟨b167, 2, none⟩)), (55, .int .i64 ((idx a0.Edges x133).Kind)), (56, .bool (decide ((idx a0.Edges x133).Kind < 1))), (57, .bool (decide ((idx a0.Edges x133).Kind < 1))), (58, .bool false), (59, .pointer (some ⟨b167, 2, none⟩)), (60, .int .i64 ((idx a0.Edges x133).Kind)), (61, .bool (decide ((idx a0.Edges x133).Kind > 16))), (62, .bool (decide ((idx a0.Edges x133).Kind > 16))), (63, .bool true), (64, undef), (65, undef), (66, undef), (67, undef), (68, undef), (69, undef), (70, undef), (71, .bool true)] [((bif (decide ((idx a0.Edges x133).From < 0)) == false then 0 else -1), 1), ((bif (decide ((idx a0.Edges x133).From ≥ a0.N)) == false then 0 else -1), 1), ((bif (decide ((idx a0.Edges x133).To < 0)) == false then 0 else -1), 1), ((bif (decide ((idx a0.Edges x133).To ≥ a0.N)) == false then 0 else -1), 1), ((bif (decide ((idx a0.Edges x133).Kind < 1)) == false then 0 else -1), 1), ((bif (decide ((idx a0.Edges x133).Kind > 16)) == true then 0 else -1), 1)] ⟨(hI.grp 1 rfl), (hI.grp 0 rfl), trivial⟩ ⟨(bndEq hc177), (bndEq hc178), (bndEq hc179), (bndEq hc180), (bndEq hc181), (bndEq hc182), trivial⟩ (by kernel_rfl) (by kernel_rfl) (by kernel_rfl) ?_
                      refine r_out (by kernel_rfl) ?_
                      exact hJ175 true _ _ ⟨_, at_slots _ (by kernel_rfl), hI.pick [0] (by decide) rfl⟩ H
                    · refine o_batch 0 [(b167, 0, [.int .i64 ((idx a0.Edges x133).From), .int .i64 ((idx a0.Edges x133).To), .int .i64 ((idx a0.Edges x133).Kind), .int .i64 ((idx a0.Edges x133).Key)]), (b2, 0, [.int .i64 a0.N, .slice (some ⟨b165, q166, none⟩) a0.Edges.length c0z0])] [.p, .l 0 0, .p, .c false, .p, .l 0 0, .p, .l 1 0, .p, .p, .c false, .p, .l 0 1, .p, .p, .c false, .p, .l 0 1, .p, .l 1 0, .p, .p, .c false, .p, .l 0 2, .p, .p, .c false, .p, .l 0 2, .p, .p, .c false, .p, .l 0 2, .p, .l 0 2, .p, .p, .p, .p] [(31, .pointer (some ⟨b167, 0, none⟩)), (32, .int .i64 ((idx a0.Edges x133).From)), (33, .bool (decide ((idx a0.Edges x133).From < 0))), (34, .bool false), (35, .pointer (some ⟨b167, 0, none⟩)), (36, .int .i64 ((idx a0.Edges x133).From)), (37, .pointer (some ⟨b2, 0, none⟩)), (38, .int .i64 a0.N), (39, .bool (decide ((idx a0.Edges x133).From ≥ a0.N))), (40, .bool (decide ((idx a0.Edges x133).From ≥ a0.N))), (41, .bool false), (42, .pointer (some ⟨b167, 1, none⟩)), (43, .int .i64 ((idx a0.Edges x133).To)), (44, .bool (decide ((idx a0.Edges x133).To < 0))), (45, .bool (decide ((idx a0.Edges x133).To < 0))), (46, .bool false), (47, .pointer (some ⟨b167, 1, none⟩)), (48, .int .i64 ((idx a0.Edges x133).To)), (49, .pointer (some ⟨b2, 0, none⟩)), (50, .int .i64 a0.N), (51, .bool (decide ((idx a0.Edges x133).To ≥ a0.N))), (52, .bool (decide ((idx a0.Edges x133).To ≥ a0.N))), (53, .bool false), (54, .pointer (some ⟨b167, 2, none⟩)), (55, .int .i64 ((idx a0.Edges x133).Kind)), (56, .bool (decide ((idx a0.Edges x133).Kind < 1))), (57, .bool (decide ((idx a0.Edges x133).Kind < 1))), (58, .bool false), (59, .pointer (some ⟨b167, 2, none⟩)), (60, .int .i64 ((idx a0.Edges x133).Kind)), (61, .bool (decide ((idx a0.Edges x133).Kind > 16))), (62, .bool (decide ((idx a0.Edges x133).Kind > 16))), (63, .bool false), (64, .pointer (some ⟨b167, 2, none⟩)), (65, .int .i64 ((idx a0.Edges x133).Kind)), (66, .pointer (some ⟨b167, 2, none⟩)), (67, .int .i64 ((idx a0.Edges x133).Kind)), (68, .int .i64 (w64 (((idx a0.Edges x133).Kind) - 1))), (69, .int .i64 (bAnd .i64 ((idx a0.Edges x133).Kind) (w64 (((idx a0.Edges x133).Kind) - 1)))), (70, .bool (bAnd .i64 ((idx a0.Edges x133).Kind) (w64 (((idx a0.Edges x133).Kind) - 1)) != 0)), (71, .bool (bAnd .i64 ((idx a0.Edges x133).Kind) (w64 (((idx a0.Edges x133).Kind) - 1)) != 0))] [((bif (decide ((idx a0.Edges x133).From < 0)) == false then 0 else -1), 1), ((bif (decide ((idx a0.Edges x133).From ≥ a0.N)) == false then 0 else -1), 1), ((bif (decide ((idx a0.Edges x133).To < 0)) == false then 0 else -1), 1), ((bif (decide ((idx a0.Edges x133).To ≥ a0.N)) == false then 0 else -1), 1), ((bif (decide ((idx a0.Edges x133).Kind < 1)) == false then 0 else -1), 1), ((bif (decide ((idx a0.Edges x133).Kind > 16)) == false then 0 else -1), 1)] ⟨(hI.grp 1 rfl), (hI.grp 0 rfl), trivial⟩ ⟨(bndEq hc177), (bndEq hc178), (bndEq hc179), (bndEq hc180), (bndEq hc181), (bndEq hc182), trivial⟩ (by kernel_rfl) (by kernel_rfl) (by kernel_rfl) ?_
                      refine r_out (by kernel_rfl) ?_
                      exact hJ175 (bAnd .i64 ((idx a0.Edges x133).Kind) (w64 (((idx a0.Edges x133).Kind) - 1)) != 0) _ _ ⟨_, at_slots _ (by kernel_rfl), hI.pick [0] (by decide) rfl⟩ H
      · refine go_else' (t := decide (x133 < (a0.Edges.length : Int))) (by kernel_rfl) hc135 ?_
        refine go_exit rfl ?_
        refine go_seq ?_
        refine r_in ?_
        refine o_batch 0 [] [.p] [(2, .int .i64 0)] [] trivial trivial (by kernel_rfl) (by kernel_rfl) (by kernel_rfl) ?_
        refine r_out (by kernel_rfl) ?_
        replace H := out_some H
        obtain ⟨_, H, he1⟩ := H
        have he := (hout1 _ he1).symm
        subst he
        replace H := Option.some.inj H
        subst H
        exact go_return (.int .i64 0) Tryd.func19 (by kernel_rfl) ⟨rfl, hI.pick [] (by decide) rfl⟩
  · refine r_in ?_
    replace H := cond_some H
    rcases H with ⟨hc183, H⟩ | ⟨hc183, H⟩
    · refine o_batch 0 [(b2, 0, [.int .i64 a0.N, .slice A0z0 a0.Edges.length c0z0])] [.p, .l 0 0, .p, .c true, .p, .p, .p, .p, .p, .p, .p, .p, .p, .p] [(5, .pointer (some ⟨b2, 0, none⟩)), (6, .int .i64 a0.N), (7, .bool (decide (a0.N < 0))), (8, .bool true), (9, undef), (10, undef), (11, undef), (12, .bool true), (13, .bool true), (14, undef), (15, undef), (16, undef), (17, undef), (18, .bool true)] [((bif (decide (a0.N < 0)) == true then 0 else -1), 1)] ⟨(hI.grp 0 rfl), trivial⟩ ⟨(bndEq hc183), trivial⟩ (by kernel_rfl) (by kernel_rfl) (by kernel_rfl) ?_
      refine r_out (by kernel_rfl) ?_
      exact hJ10 true _ _ ⟨_, at_slots _ (by kernel_rfl), hI⟩ H
    · replace H := cond_some H
      rcases H with ⟨hc184, H⟩ | ⟨hc184, H⟩
      · refine o_batch 0 [(b2, 0, [.int .i64 a0.N, .slice A0z0 a0.Edges.length c0z0])] [.p, .l 0 0, .p, .c false, .p, .l 0 0, .p, .p, .c true, .p, .p, .p, .p, .p] [(5, .pointer (some ⟨b2, 0, none⟩)), (6, .int .i64 a0.N), (7, .bool (decide (a0.N < 0))), (8, .bool false), (9, .pointer (some ⟨b2, 0, none⟩)), (10, .int .i64 a0.N), (11, .bool (decide (a0.N > 64))), (12, .bool (decide (a0.N > 64))), (13, .bool true), (14, undef), (15, undef), (16, undef), (17, undef), (18, .bool true)] [((bif (decide (a0.N < 0)) == false then 0 else -1), 1), ((bif (decide (a0.N > 64)) == true then 0 else -1), 1)] ⟨(hI.grp 0 rfl), trivial⟩ ⟨(bndEq hc183), (bndEq hc184), trivial⟩ (by kernel_rfl) (by kernel_rfl) (by kernel_rfl) ?_
        refine r_out (by kernel_rfl) ?_
        exact hJ10 true _ _ ⟨_, at_slots _ (by kernel_rfl), hI⟩ H
      · refine o_batch 0 [(b2, 0, [.int .i64 a0.N, .slice A0z0 a0.Edges.length c0z0])] [.p, .l 0 0, .p, .c false, .p, .l 0 0, .p, .p, .c false, .p, .l 0 1, .p, .p, .p] [(5, .pointer (some ⟨b2, 0, none⟩)), (6, .int .i64 a0.N), (7, .bool (decide (a0.N < 0))), (8, .bool false), (9, .pointer (some ⟨b2, 0, none⟩)), (10, .int .i64 a0.N), (11, .bool (decide (a0.N > 64))), (12, .bool (decide (a0.N > 64))), (13, .bool false), (14, .pointer (some ⟨b2, 1, none⟩)), (15, .slice A0z0 a0.Edges.length c0z0), (16, .int .i64 (a0.Edges.length : Int)), (17, .bool (decide ((a0.Edges.length : Int) > 262144))), (18, .bool (decide ((a0.Edges.length : Int) > 262144)))] [((bif (decide (a0.N < 0)) == false then 0 else -1), 1), ((bif (decide (a0.N > 64)) == false then 0 else -1), 1)] ⟨(hI.grp 0 rfl), trivial⟩ ⟨(bndEq hc183), (bndEq hc184), trivial⟩ (by kernel_rfl) (by kernel_rfl) (by kernel_rfl) ?_
        refine r_out (by kernel_rfl) ?_
        exact hJ10 (decide ((a0.Edges.length : Int) > 262144)) _ _ ⟨_, at_slots _ (by kernel_rfl), hI⟩ H

/-! ### assizeref06.Steps -/
theorem enter33 (a : Array Value) : Sem.pureRun Tryd.prog (callFunc 33 a) = some (.enter 33 a) := by kernel_rfl
theorem assizeref06zSteps_calls (a0 : Graph) (A0z0 : Option Addr) (c0z0 : Nat) (a1 : Int) (M : Mem) (w : World) (hI : Inv M w []) (hr0z0 : rdS kEdge M.blk A0z0 a0.Edges) (hl0z0 : a0.Edges.length ≤ c0z0) (r : (List (List Bool))) (H : assizeref06zSteps a0 a1 = some r) :
    Calls Tryd.prog 33 #[.agg #[.int .i64 a0.N, .slice A0z0 a0.Edges.length c0z0], .int .i64 a1] w fun e w' => ∃ (A500 : Option Addr) (c501 : Nat), e = .returned (.slice A500 r.length c501) ∧ Inv M w' [.row (tSlice 4 tBool) 27 A500 r.length c501 r] := by
  refine calls_go (updL (fun _ => undef) [(0, .agg #[.int .i64 a0.N, .slice A0z0 a0.Edges.length c0z0]), (1, .int .i64 a1)]) Tryd.func33 rfl (by kernel_rfl) ?_
  intro cs
  unfold assizeref06zSteps at H
  refine go_seq ?_
  refine r_in ?_
  refine o_eff 0 _ rfl (by kernel_rfl) ?_
  refine e_box 24 _ (.agg #[.int .i64 a0.N, .slice A0z0 a0.Edges.length c0z0]) [.int .i64 a0.N, .slice A0z0 a0.Edges.length c0z0] rfl (by kernel_rfl) rfl hI ?_
  clear hI
  intro b2 _ hI
  refine o_batch 1 [] [.p] [(4, .slice none 0 0)] [] trivial trivial (by kernel_rfl) (by kernel_rfl) (by kernel_rfl) ?_
  refine r_out (by kernel_rfl) ?_
  refine go_seq ?_
  refine r_in ?_
  refine o_batch 0 [(b2, 0, [.int .i64 a0.N, .slice A0z0 a0.Edges.length c0z0])] [.p, .l 0 0] [(8, .pointer (some ⟨b2, 0, none⟩)), (9, .int .i64 a0.N)] [] ⟨(hI.grp 0 rfl), trivial⟩ trivial (by kernel_rfl) (by kernel_rfl) (by kernel_rfl) ?_
  replace H := must_some H
  obtain ⟨g5, H⟩ := H
  refine o_eff 2 _ rfl (by kernel_rfl) ?_
  refine e_make (tSlice 4 tBool) (default : List Bool) 31 27 _ _ _ (.slice none 0 0) a0.N rfl rfl rfl rfl rfl rfl (fun _ => ⟨none, 0, rfl, rowOwn.nil⟩) (by kernel_rfl) (by kernel_rfl) g5 hI ?_
  clear hI
  intro b6 _ hI
  refine o_batch 3 [] [.p] [(5, .slice (some ⟨b6, 0, none⟩) a0.N.toNat a0.N.toNat)] [] trivial trivial (by kernel_rfl) (by kernel_rfl) (by kernel_rfl) ?_
  refine r_out (by kernel_rfl) ?_
  refine go_seq ?_
  refine go_seq ?_
  refine r_in ?_
  refine o_batch 0 [] [.p] [(6, .int .i64 0)] [] trivial trivial (by kernel_rfl) (by kernel_rfl) (by kernel_rfl) ?_
  refine r_out (by kernel_rfl) ?_
  refine go_block ?_
  refine go_is 5 (.slice (some ⟨b6, 0, none⟩) a0.N.toNat a0.N.toNat) (.slice (some ⟨b6, 0, none⟩) ((List.replicate a0.N.toNat (default : List Bool)).length) a0.N.toNat) (by kernel_rfl) (by first | rfl | simp only [List.length_set, List.length_replicate, List.length_nil]) ?_
  replace hI := hI.renum 1 rfl
  refine go_iter (assizeref06zSteps.s1 a0 a1) (fun (l168, x171) f w => ∃ (j : Nat → Value) (A169 : Option Addr) (c170 : Nat), f = updL j [(1, .int .i64 a1), (2, .pointer (some ⟨b2, 0, none⟩)), (5, .slice A169 l168.length c170), (6, .int .i64 x171)] ∧ Inv M w [.blk b2 24 [.int .i64 a0.N, .slice A0z0 a0.Edges.length c0z0], .row (tSlice 4 tBool) 27 A169 l168.length c170 l168]) H ⟨_, (some ⟨b6, 0, none⟩), a0.N.toNat, at_slots _ (by kernel_rfl), hI⟩ ?_
  clear H hI
  rintro ⟨l168, x171⟩ _ _ o1 H ⟨_, A169, c170, rfl, hI⟩ hin1 hout1
  refine go_seq ?_
  refine go_seq ?_
  refine r_in ?_
  refine o_batch 0 [(b2, 0, [.int .i64 a0.N, .slice A0z0 a0.Edges.length c0z0])] [.p, .p, .l 0 0, .p] [(11, .int .i64 x171), (12, .pointer (some ⟨b2, 0, none⟩)), (13, .int .i64 a0.N), (14, .bool (decide (x171 < a0.N)))] [] ⟨(hI.grp 0 rfl), trivial⟩ trivial (by kernel_rfl) (by kernel_rfl) (by kernel_rfl) ?_
  refine r_out (by kernel_rfl) ?_
  replace H := cond_some H
  rcases H with ⟨hc173, H⟩ | ⟨hc173, H⟩
  · refine go_then' (t := decide (x171 < a0.N)) (by kernel_rfl) hc173 ?_
    refine go_skip ?_
    refine go_seq ?_
    refine go_block ?_
    refine r_in ?_
    refine o_batch 0 [(b2, 0, [.int .i64 a0.N, .slice A0z0 a0.Edges.length c0z0])] [.p, .p, .p, .l 0 0] [(17, .slice A169 l168.length c170), (18, .int .i64 x171), (19, .pointer (some ⟨b2, 0, none⟩)), (20, .int .i64 a0.N)] [] ⟨(hI.grp 0 rfl), trivial⟩ trivial (by kernel_rfl) (by kernel_rfl) (by kernel_rfl) ?_
    replace H := must_some H
    obtain ⟨g196, H⟩ := H
    refine o_eff 4 _ rfl (by kernel_rfl) ?_
    refine e_make tBool (default : Bool) 27 4 _ _ _ (.bool false) a0.N rfl rfl rfl rfl rfl rfl (fun _ => rfl) (by kernel_rfl) (by kernel_rfl) g196 hI ?_
    clear hI
    intro b197 _ hI
    replace H := must_some H
    obtain ⟨g198, H⟩ := H
    obtain ⟨b199, rfl⟩ := hI.rowAt 1 rfl g198
    obtain ⟨cs202, hk201, hg200⟩ := rdS.look (hI.row 1 rfl) (hI.rowlen 1 rfl) g198
    obtain ⟨A203, c204, rfl, hl206, hr205⟩ := hk201
    refine o_batch 5 [] [.x] [(22, .pointer (some ⟨b199, 0 + x171.toNat * 1, none⟩))] [(x171, l168.length)] trivial ⟨g198, trivial⟩ (by kernel_rfl) (by kernel_rfl) (by kernel_rfl) ?_
    refine o_eff 6 _ rfl (by kernel_rfl) ?_
    refine e_putown 27 _ _ 1 [2] [0] b199 27 l168.length c170 l168 (List.replicate a0.N.toNat (default : Bool)) x171 (.slice (some ⟨b197, 0, none⟩) a0.N.toNat a0.N.toNat) [.row tBool 4 (some ⟨b197, 0, none⟩) a0.N.toNat a0.N.toNat (List.replicate a0.N.toNat (default : Bool))] [.blk b2 24 [.int .i64 a0.N, .slice A0z0 a0.Edges.length c0z0]] rfl (by kernel_rfl) (by kernel_rfl) (by kernel_rfl) (by kernel_rfl) hI (by decide) rfl g198 mk_row ?_
    clear hI
    intro _ hI
    refine r_out (by kernel_rfl) ?_
    refine go_inBlock ?_
    refine r_in ?_
    refine o_batch 0 [] [.p, .p, .p] [(15, .int .i64 x171), (16, .int .i64 (w64 (x171 + 1))), (6, .int .i64 (w64 (x171 + 1)))] [] trivial trivial (by kernel_rfl) (by kernel_rfl) (by kernel_rfl) ?_
    refine r_out (by kernel_rfl) ?_
    refine go_is 5 (.slice (some ⟨b199, 0, none⟩) l168.length c170) (.slice (some ⟨b199, 0, none⟩) ((l168.set x171.toNat (List.replicate a0.N.toNat (default : Bool))).length) c170) (by kernel_rfl) (by first | rfl | simp only [List.length_set, List.length_replicate, List.length_nil]) ?_
    replace hI := hI.renum 0 rfl
    exact hin1 _ (Option.some.inj H).symm _ _ ⟨_, (some ⟨b199, 0, none⟩), c170, at_slots _ (by kernel_rfl), hI.pick [1, 0] (by decide) rfl⟩
  · refine go_else' (t := decide (x171 < a0.N)) (by kernel_rfl) hc173 ?_
    refine go_exit rfl ?_
    refine go_seq ?_
    refine go_seq ?_
    refine r_in ?_
    refine o_batch 0 [] [.p] [(7, .int .i64 0)] [] trivial trivial (by kernel_rfl) (by kernel_rfl) (by kernel_rfl) ?_
    refine r_out (by kernel_rfl) ?_
    refine go_block ?_
    refine go_iter (assizeref06zSteps.s2 a0 a1) (fun (l435, x438) f w => ∃ (j : Nat → Value) (A436 : Option Addr) (c437 : Nat), f = updL j [(1, .int .i64 a1), (2, .pointer (some ⟨b2, 0, none⟩)), (5, .slice A436 l435.length c437), (7, .int .i64 x438)] ∧ Inv M w [.blk b2 24 [.int .i64 a0.N, .slice A0z0 a0.Edges.length c0z0], .row (tSlice 4 tBool) 27 A436 l435.length c437 l435]) H ⟨_, A169, c170, at_slots _ (by kernel_rfl), hI⟩ ?_
    clear H hI
    rintro ⟨l435, x438⟩ _ _ o2 H ⟨_, A436, c437, rfl, hI⟩ hin2 hout2
    refine go_seq ?_
    refine go_seq ?_
    refine r_in ?_
    refine o_batch 0 [(b2, 0, [.int .i64 a0.N, .slice A0z0 a0.Edges.length c0z0])] [.p, .p, .l 0 1, .p, .p] [(23, .int .i64 x438), (24, .pointer (some ⟨b2, 1, none⟩)), (25, .slice A0z0 a0.Edges.length c0z0), (26, .int .i64 (a0.Edges.length : Int)), (27, .bool (decide (x438 < (a0.Edges.length : Int))))] [] ⟨(hI.grp 0 rfl), trivial⟩ trivial (by kernel_rfl) (by kernel_rfl) (by kernel_rfl) ?_
    refine r_out (by kernel_rfl) ?_
    replace H := cond_some H
    rcases H with ⟨hc440, H⟩ | ⟨hc440, H⟩
    · refine go_then' (t := decide (x438 < (a0.Edges.length : Int))) (by kernel_rfl) hc440 ?_
      refine go_skip ?_
      refine go_seq ?_
      refine go_block_join (o := o2) (fun l476 f w => ∃ (j : Nat → Value) (A477 : Option Addr) (c478 : Nat), f = updL j [(1, .int .i64 a1), (2, .pointer (some ⟨b2, 0, none⟩)), (5, .slice A477 l476.length c478), (7, .int .i64 x438)] ∧ Inv M w [.blk b2 24 [.int .i64 a0.N, .slice A0z0 a0.Edges.length c0z0], .row (tSlice 4 tBool) 27 A477 l476.length c478 l476]) (fun l476 => assizeref06zSteps.j3 x438 l476) ?_ (fun hJ479 => ?_)
      · clear H hI
        rintro l476 _ _ ⟨_, A477, c478, rfl, hI⟩ H
        refine r_in ?_
        refine o_batch 0 [] [.p, .p, .p] [(28, .int .i64 x438), (29, .int .i64 (w64 (x438 + 1))), (7, .int .i64 (w64 (x438 + 1)))] [] trivial trivial (by kernel_rfl) (by kernel_rfl) (by kernel_rfl) ?_
        refine r_out (by kernel_rfl) ?_
        exact hin2 _ (Option.some.inj H).symm _ _ ⟨_, A477, c478, at_slots _ (by kernel_rfl), hI⟩
      · refine go_seq ?_
        refine r_in ?_
        replace H := must_some H
        obtain ⟨g483, H⟩ := H
        obtain ⟨b484, q485, rfl, _⟩ := rdS.fopen hr0z0 rfl g483
        refine o_batch 0 [(b2, 0, [.int .i64 a0.N, .slice (some ⟨b484, q485, none⟩) a0.Edges.length c0z0]), (b484, q485 + x438.toNat * 4, [.int .i64 ((idx a0.Edges x438).From), .int .i64 ((idx a0.Edges x438).To), .int .i64 ((idx a0.Edges x438).Kind), .int .i64 ((idx a0.Edges x438).Key)])] [.p, .l 0 1, .p, .x, .p, .l 1 2, .p, .p, .p] [(30, .pointer (some ⟨b2, 1, none⟩)), (31, .slice (some ⟨b484, q485, none⟩) a0.Edges.length c0z0), (32, .int .i64 x438), (33, .pointer (some ⟨b484, q485 + x438.toNat * 4, none⟩)), (34, .pointer (some ⟨b484, q485 + x438.toNat * 4 + 2, none⟩)), (35, .int .i64 ((idx a0.Edges x438).Kind)), (36, .int .i64 a1), (37, .int .i64 (bAnd .i64 ((idx a0.Edges x438).Kind) a1)), (38, .bool (bAnd .i64 ((idx a0.Edges x438).Kind) a1 != 0))] [(x438, a0.Edges.length)] ⟨(hI.grp 0 rfl), (hI.lies (rdS.flook hr0z0 rfl g483)), trivial⟩ ⟨g483, trivial⟩ (by kernel_rfl) (by kernel_rfl) (by kernel_rfl) ?_
        refine r_out (by kernel_rfl) ?_
        replace H := cond_some H
        rcases H with ⟨hc486, H⟩ | ⟨hc486, H⟩
        · refine go_then' (t := (bAnd .i64 ((idx a0.Edges x438).Kind) a1 != 0)) (by kernel_rfl) hc486 ?_
          replace H := must_some H
          obtain ⟨g487, H⟩ := H
          obtain ⟨b488, rfl⟩ := hI.rowAt 1 rfl g487
          obtain ⟨cs491, hk490, hg489⟩ := rdS.look (hI.row 1 rfl) (hI.rowlen 1 rfl) g487
          obtain ⟨A492, c493, rfl, hl495, hr494⟩ := hk490
          replace H := must_some H
          obtain ⟨g496, H⟩ := H
          obtain ⟨b497, q498, rfl, _⟩ := rdS.fopen hr494 rfl g496
          refine d_tail' 16 _ [(b2, 0, [.int .i64 a0.N, .slice (some ⟨b484, q485, none⟩) a0.Edges.length c0z0]), (b484, q485 + x438.toNat * 4, [.int .i64 ((idx a0.Edges x438).From), .int .i64 ((idx a0.Edges x438).To), .int .i64 ((idx a0.Edges x438).Kind), .int .i64 ((idx a0.Edges x438).Key)]), (b488, 0 + ((idx a0.Edges x438).From).toNat * 1, [.slice (some ⟨b497, q498, none⟩) ((idx l435 ((idx a0.Edges x438).From)).length) c493])] [.p, .p, .l 0 1, .p, .x, .p, .l 1 0, .x, .l 2 0, .p, .l 0 1, .p, .x, .p, .l 1 1, .x] [(39, .slice (some ⟨b488, 0, none⟩) l435.length c437), (40, .pointer (some ⟨b2, 1, none⟩)), (41, .slice (some ⟨b484, q485, none⟩) a0.Edges.length c0z0), (42, .int .i64 x438), (43, .pointer (some ⟨b484, q485 + x438.toNat * 4, none⟩)), (44, .pointer (some ⟨b484, q485 + x438.toNat * 4, none⟩)), (45, .int .i64 ((idx a0.Edges x438).From)), (46, .pointer (some ⟨b488, 0 + ((idx a0.Edges x438).From).toNat * 1, none⟩)), (47, .slice (some ⟨b497, q498, none⟩) ((idx l435 ((idx a0.Edges x438).From)).length) c493), (48, .pointer (some ⟨b2, 1, none⟩)), (49, .slice (some ⟨b484, q485, none⟩) a0.Edges.length c0z0), (50, .int .i64 x438), (51, .pointer (some ⟨b484, q485 + x438.toNat * 4, none⟩)), (52, .pointer (some ⟨b484, q485 + x438.toNat * 4 + 1, none⟩)), (53, .int .i64 ((idx a0.Edges x438).To)), (54, .pointer (some ⟨b497, q498 + ((idx a0.Edges x438).To).toNat * 1, none⟩))] [(x438, a0.Edges.length), ((idx a0.Edges x438).From, l435.length), (x438, a0.Edges.length), ((idx a0.Edges x438).To, (idx l435 ((idx a0.Edges x438).From)).length)] (by kernel_rfl) (by kernel_rfl) rfl rfl ⟨(hI.grp 0 rfl), (hI.lies (rdS.flook hr0z0 rfl g483)), hg489.ok, trivial⟩ ⟨g483, g487, g483, g496, trivial⟩ (by kernel_rfl) (by kernel_rfl) (by kernel_rfl) (by kernel_rfl) hI ?_
          clear hI
          intro _ hI hsame
          refine e_put2 4 _ _ 1 b488 27 4 l435.length c437 l435 ((idx a0.Edges x438).From) b497 q498 ((idx l435 ((idx a0.Edges x438).From)).length) c493 true ((idx a0.Edges x438).To) 0 (.bool true) rfl (by kernel_rfl) (by kernel_rfl) (by kernel_rfl) (by kernel_rfl) hI rfl g487 (Grp.ok_same (Lies.ok hg489) hsame) (by simpa only [List.length_set, List.length_replicate] using g496) (by kernel_rfl) (by kernel_rfl) ?_
          clear hI
          intro _ hI
          refine go_inBlock ?_
          refine go_is 5 (.slice (some ⟨b488, 0, none⟩) l435.length c437) (.slice (some ⟨b488, 0, none⟩) ((l435.set ((idx a0.Edges x438).From).toNat ((idx l435 ((idx a0.Edges x438).From)).set ((idx a0.Edges x438).To).toNat true)).length) c437) (by kernel_rfl) (by first | rfl | simp only [List.length_set, List.length_replicate, List.length_nil]) ?_
          replace hI := hI.renum 1 rfl
          exact hJ479 (l435.set ((idx a0.Edges x438).From).toNat ((idx l435 ((idx a0.Edges x438).From)).set ((idx a0.Edges x438).To).toNat true)) _ _ ⟨_, (some ⟨b488, 0, none⟩), c437, at_slots _ (by kernel_rfl), hI⟩ H
        · refine go_else' (t := (bAnd .i64 ((idx a0.Edges x438).Kind) a1 != 0)) (by kernel_rfl) hc486 ?_
          refine go_skip ?_
          refine go_inBlock ?_
          exact hJ479 l435 _ _ ⟨_, A436, c437, at_slots _ (by kernel_rfl), hI⟩ H
    · refine go_else' (t := decide (x438 < (a0.Edges.length : Int))) (by kernel_rfl) hc440 ?_
      refine go_exit rfl ?_
      refine go_seq ?_
      refine r_in ?_
      refine o_batch 0 [] [.p, .p] [(55, .slice A436 l435.length c437), (4, .slice A436 l435.length c437)] [] trivial trivial (by kernel_rfl) (by kernel_rfl) (by kernel_rfl) ?_
      refine r_out (by kernel_rfl) ?_
      replace H := out_some H
      obtain ⟨_, H, he2⟩ := H
      have he := (hout2 _ he2).symm
      subst he
      replace H := out_some H
      obtain ⟨_, H, he1⟩ := H
      have he := (hout1 _ he1).symm
      subst he
      replace H := Option.some.inj H
      subst H
      exact go_return (.slice A436 l435.length c437) Tryd.func33 (by kernel_rfl) ⟨A436, c437, rfl, hI.pick [1] (by decide) rfl⟩

/-! ### assizeref06.Closure -/
theorem enter15 (a : Array Value) : Sem.pureRun Tryd.prog (callFunc 15 a) = some (.enter 15 a) := by kernel_rfl
theorem assizeref06zClosure_calls (a0 : Graph) (A0z0 : Option Addr) (c0z0 : Nat) (a1 : Int) (M : Mem) (w : World) (hI : Inv M w []) (hr0z0 : rdS kEdge M.blk A0z0 a0.Edges) (hl0z0 : a0.Edges.length ≤ c0z0) (r : (List (List Bool)) × Int) (H : assizeref06zClosure a0 a1 = some r) :
    Calls Tryd.prog 15 #[.agg #[.int .i64 a0.N, .slice A0z0 a0.Edges.length c0z0], .int .i64 a1] w fun e w' => ∃ (A6350 : Option Addr) (c6351 : Nat), e = .returned (.tuple #[.slice A6350 r.1.length c6351, .int .i64 r.2]) ∧ Inv M w' [.row (tSlice 4 tBool) 27 A6350 r.1.length c6351 r.1] := by
  refine calls_go (updL (fun _ => undef) [(0, .agg #[.int .i64 a0.N, .slice A0z0 a0.Edges.length c0z0]), (1, .int .i64 a1)]) Tryd.func15 rfl (by kernel_rfl) ?_
  intro cs
  unfold assizeref06zClosure at H
  refine go_seq ?_
  refine r_in ?_
  refine o_eff 0 _ rfl (by kernel_rfl) ?_
  refine e_box 24 _ (.agg #[.int .i64 a0.N, .slice A0z0 a0.Edges.length c0z0]) [.int .i64 a0.N, .slice A0z0 a0.Edges.length c0z0] rfl (by kernel_rfl) rfl hI ?_
  clear hI
  intro b2 _ hI
  refine o_batch 1 [] [.p, .p] [(4, .slice none 0 0), (5, .int .i64 0)] [] trivial trivial (by kernel_rfl) (by kernel_rfl) (by kernel_rfl) ?_
  refine r_out (by kernel_rfl) ?_
  refine go_seq ?_
  refine go_seq ?_
  refine r_in ?_
  refine o_batch 0 [(b2, 0, [.int .i64 a0.N, .slice A0z0 a0.Edges.length c0z0])] [.l 0 0] [(10, .agg #[.int .i64 a0.N, .slice A0z0 a0.Edges.length c0z0])] [] ⟨(hI.grp 0 rfl), trivial⟩ trivial (by kernel_rfl) (by kernel_rfl) (by kernel_rfl) ?_
  replace H := bind_some H
  obtain ⟨y8, hy9, H⟩ := H
  refine o_eff 1 _ rfl (by kernel_rfl) ?_
  refine e_callf _ _ _ 19 #[] #[] #[.agg #[.int .i64 a0.N, .slice A0z0 a0.Edges.length c0z0]] #[.agg #[.int .i64 a0.N, .slice A0z0 a0.Edges.length c0z0]] rfl (by kernel_rfl) (by kernel_rfl) (by kernel_rfl) (enter19 _) (assizeref06zCheck_calls a0 A0z0 c0z0 (memOf _) _ (Inv.start _) (hI.rd hr0z0) hl0z0 _ hy9) ?_
  rintro _ _ ⟨rfl, hI'⟩
  replace hI := hI.call0 hI'
  clear hI'
  refine ⟨_, rfl, ?_⟩
  refine o_batch 2 [] [.p] [(12, .bool (y8 != 0))] [] trivial trivial (by kernel_rfl) (by kernel_rfl) (by kernel_rfl) ?_
  refine r_out (by kernel_rfl) ?_
  replace H := cond_some H
  rcases H with ⟨hc10, H⟩ | ⟨hc10, H⟩
  · refine go_then' (t := (y8 != 0)) (by kernel_rfl) hc10 ?_
    refine go_seq ?_
    refine r_in ?_
    refine o_batch 0 [] [.p, .p] [(4, .slice none 0 0), (5, .int .i64 60)] [] trivial trivial (by kernel_rfl) (by kernel_rfl) (by kernel_rfl) ?_
    refine r_out (by kernel_rfl) ?_
    replace H := Option.some.inj H
    subst H
    exact go_return (.tuple #[.slice none 0 0, .int .i64 60]) Tryd.func15 (by kernel_rfl) ⟨none, 0, rfl, (hI.nilrow (tSlice 4 tBool) 27).pick [1] (by decide) rfl⟩
  · refine go_else' (t := (y8 != 0)) (by kernel_rfl) hc10 ?_
    refine go_skip ?_
    refine go_seq ?_
    refine r_in ?_
    refine o_batch 0 [(b2, 0, [.int .i64 a0.N, .slice A0z0 a0.Edges.length c0z0])] [.l 0 0, .p] [(13, .agg #[.int .i64 a0.N, .slice A0z0 a0.Edges.length c0z0]), (14, .int .i64 a1)] [] ⟨(hI.grp 0 rfl), trivial⟩ trivial (by kernel_rfl) (by kernel_rfl) (by kernel_rfl) ?_
    replace H := bind_some H
    obtain ⟨y15, hy16, H⟩ := H
    refine o_eff 2 _ rfl (by kernel_rfl) ?_
    refine e_callf _ _ _ 33 #[] #[] #[.agg #[.int .i64 a0.N, .slice A0z0 a0.Edges.length c0z0], .int .i64 a1] #[.agg #[.int .i64 a0.N, .slice A0z0 a0.Edges.length c0z0], .int .i64 a1] rfl (by kernel_rfl) (by kernel_rfl) (by kernel_rfl) (enter33 _) (assizeref06zSteps_calls a0 A0z0 c0z0 a1 (memOf _) _ (Inv.start _) (hI.rd hr0z0) hl0z0 _ hy16) ?_
    rintro _ _ ⟨A17, c18, rfl, hI'⟩
    replace hI := hI.call0 hI'
    clear hI'
    refine ⟨_, rfl, ?_⟩
    refine o_batch 3 [] [.p] [(6, .slice A17 y15.length c18)] [] trivial trivial (by kernel_rfl) (by kernel_rfl) (by kernel_rfl) ?_
    refine r_out (by kernel_rfl) ?_
    refine go_seq ?_
    refine go_seq ?_
    refine r_in ?_
    refine o_batch 0 [] [.p] [(7, .int .i64 0)] [] trivial trivial (by kernel_rfl) (by kernel_rfl) (by kernel_rfl) ?_
    refine r_out (by kernel_rfl) ?_
    refine go_block ?_
    refine go_iter (assizeref06zClosure.s1 a0) (fun (l3882, x3885) f w => ∃ (j : Nat → Value) (A3883 : Option Addr) (c3884 : Nat), f = updL j [(2, .pointer (some ⟨b2, 0, none⟩)), (6, .slice A3883 l3882.length c3884), (7, .int .i64 x3885)] ∧ Inv M w [.blk b2 24 [.int .i64 a0.N, .slice A0z0 a0.Edges.length c0z0], .row (tSlice 4 tBool) 27 A3883 l3882.length c3884 l3882]) H ⟨_, A17, c18, at_slots _ (by kernel_rfl), hI⟩ ?_
    clear H hI
    rintro ⟨l3882, x3885⟩ _ _ o1 H ⟨_, A3883, c3884, rfl, hI⟩ hin1 hout1
    refine go_seq ?_
    refine go_seq ?_
    refine r_in ?_
    refine o_batch 0 [(b2, 0, [.int .i64 a0.N, .slice A0z0 a0.Edges.length c0z0])] [.p, .p, .l 0 0, .p] [(16, .int .i64 x3885), (17, .pointer (some ⟨b2, 0, none⟩)), (18, .int .i64 a0.N), (19, .bool (decide (x3885 < a0.N)))] [] ⟨(hI.grp 0 rfl), trivial⟩ trivial (by kernel_rfl) (by kernel_rfl) (by kernel_rfl) ?_
    refine r_out (by kernel_rfl) ?_
    replace H := cond_some H
    rcases H with ⟨hc3887, H⟩ | ⟨hc3887, H⟩
    · refine go_then' (t := decide (x3885 < a0.N)) (by kernel_rfl) hc3887 ?_
      refine go_skip ?_
      refine go_seq ?_
      refine go_block ?_
      refine go_seq ?_
      refine r_in ?_
      refine o_batch 0 [] [.p] [(8, .int .i64 0)] [] trivial trivial (by kernel_rfl) (by kernel_rfl) (by kernel_rfl) ?_
      refine r_out (by kernel_rfl) ?_
      refine go_block ?_
      refine go_iter (assizeref06zClosure.s2 a0 x3885) (fun (l5637, x5640) f w => ∃ (j : Nat → Value) (A5638 : Option Addr) (c5639 : Nat), f = updL j [(2, .pointer (some ⟨b2, 0, none⟩)), (6, .slice A5638 l5637.length c5639), (7, .int .i64 x3885), (8, .int .i64 x5640)] ∧ Inv M w [.blk b2 24 [.int .i64 a0.N, .slice A0z0 a0.Edges.length c0z0], .row (tSlice 4 tBool) 27 A5638 l5637.length c5639 l5637]) H ⟨_, A3883, c3884, at_slots _ (by kernel_rfl), hI⟩ ?_
      clear H hI
      rintro ⟨l5637, x5640⟩ _ _ o2 H ⟨_, A5638, c5639, rfl, hI⟩ hin2 hout2
      refine go_seq ?_
      refine go_seq ?_
      refine r_in ?_
      refine o_batch 0 [(b2, 0, [.int .i64 a0.N, .slice A0z0 a0.Edges.length c0z0])] [.p, .p, .l 0 0, .p] [(22, .int .i64 x5640), (23, .pointer (some ⟨b2, 0, none⟩)), (24, .int .i64 a0.N), (25, .bool (decide (x5640 < a0.N)))] [] ⟨(hI.grp 0 rfl), trivial⟩ trivial (by kernel_rfl) (by kernel_rfl) (by kernel_rfl) ?_
      refine r_out (by kernel_rfl) ?_
      replace H := cond_some H
      rcases H with ⟨hc5642, H⟩ | ⟨hc5642, H⟩
      · refine go_then' (t := decide (x5640 < a0.N)) (by kernel_rfl) hc5642 ?_
        refine go_skip ?_
        refine go_seq ?_
        refine go_block ?_
        refine go_seq ?_
        refine r_in ?_
        refine o_batch 0 [] [.p] [(9, .int .i64 0)] [] trivial trivial (by kernel_rfl) (by kernel_rfl) (by kernel_rfl) ?_
        refine r_out (by kernel_rfl) ?_
        refine go_block ?_
        refine go_iter (assizeref06zClosure.s3 a0 x3885 x5640) (fun (l6197, x6200) f w => ∃ (j : Nat → Value) (A6198 : Option Addr) (c6199 : Nat), f = updL j [(2, .pointer (some ⟨b2, 0, none⟩)), (6, .slice A6198 l6197.length c6199), (7, .int .i64 x3885), (8, .int .i64 x5640), (9, .int .i64 x6200)] ∧ Inv M w [.blk b2 24 [.int .i64 a0.N, .slice A0z0 a0.Edges.length c0z0], .row (tSlice 4 tBool) 27 A6198 l6197.length c6199 l6197]) H ⟨_, A5638, c5639, at_slots _ (by kernel_rfl), hI⟩ ?_
        clear H hI
        rintro ⟨l6197, x6200⟩ _ _ o3 H ⟨_, A6198, c6199, rfl, hI⟩ hin3 hout3
        refine go_seq ?_
        refine go_seq ?_
        refine r_in ?_
        refine o_batch 0 [(b2, 0, [.int .i64 a0.N, .slice A0z0 a0.Edges.length c0z0])] [.p, .p, .l 0 0, .p] [(28, .int .i64 x6200), (29, .pointer (some ⟨b2, 0, none⟩)), (30, .int .i64 a0.N), (31, .bool (decide (x6200 < a0.N)))] [] ⟨(hI.grp 0 rfl), trivial⟩ trivial (by kernel_rfl) (by kernel_rfl) (by kernel_rfl) ?_
        refine r_out (by kernel_rfl) ?_
        replace H := cond_some H
        rcases H with ⟨hc6202, H⟩ | ⟨hc6202, H⟩
        · refine go_then' (t := decide (x6200 < a0.N)) (by kernel_rfl) hc6202 ?_
          refine go_skip ?_
          refine go_seq ?_
          refine go_block_join (o := o3) (fun l6282 f w => ∃ (j : Nat → Value) (A6283 : Option Addr) (c6284 : Nat), f = updL j [(2, .pointer (some ⟨b2, 0, none⟩)), (6, .slice A6283 l6282.length c6284), (7, .int .i64 x3885), (8, .int .i64 x5640), (9, .int .i64 x6200)] ∧ Inv M w [.blk b2 24 [.int .i64 a0.N, .slice A0z0 a0.Edges.length c0z0], .row (tSlice 4 tBool) 27 A6283 l6282.length c6284 l6282]) (fun l6282 => assizeref06zClosure.j4 x6200 l6282) ?_ (fun hJ6285 => ?_)
          · clear H hI
            rintro l6282 _ _ ⟨_, A6283, c6284, rfl, hI⟩ H
            refine r_in ?_
            refine o_batch 0 [] [.p, .p, .p] [(32, .int .i64 x6200), (33, .int .i64 (w64 (x6200 + 1))), (9, .int .i64 (w64 (x6200 + 1)))] [] trivial trivial (by kernel_rfl) (by kernel_rfl) (by kernel_rfl) ?_
            refine r_out (by kernel_rfl) ?_
            exact hin3 _ (Option.some.inj H).symm _ _ ⟨_, A6283, c6284, at_slots _ (by kernel_rfl), hI⟩
          · refine go_seq_join (o := o3) (fun b6310 f w => ∃ (j : Nat → Value), f = updL j [(2, .pointer (some ⟨b2, 0, none⟩)), (6, .slice A6198 l6197.length c6199), (7, .int .i64 x3885), (8, .int .i64 x5640), (9, .int .i64 x6200), (49, .bool b6310)] ∧ Inv M w [.blk b2 24 [.int .i64 a0.N, .slice A0z0 a0.Edges.length c0z0], .row (tSlice 4 tBool) 27 A6198 l6197.length c6199 l6197]) (fun b6310 => assizeref06zClosure.j5 x5640 l6197 x6200 b6310) ?_ (fun hJ6311 => ?_)
            · clear H hI
              rintro b6310 _ _ ⟨_, rfl, hI⟩ H
              replace H := cond_some H
              rcases H with ⟨hc6312, H⟩ | ⟨hc6312, H⟩
              · refine go_then' (t := b6310) (by kernel_rfl) hc6312 ?_
                refine r_in ?_
                replace H := must_some H
                obtain ⟨g6313, H⟩ := H
                obtain ⟨b6314, rfl⟩ := hI.rowAt 1 rfl g6313
                obtain ⟨cs6317, hk6316, hg6315⟩ := rdS.look (hI.row 1 rfl) (hI.rowlen 1 rfl) g6313
                obtain ⟨A6318, c6319, rfl, hl6321, hr6320⟩ := hk6316
                replace H := must_some H
                obtain ⟨g6322, H⟩ := H
                obtain ⟨b6323, q6324, rfl, _⟩ := rdS.fopen hr6320 rfl g6322
                refine o_batch 0 [(b6314, 0 + x5640.toNat * 1, [.slice (some ⟨b6323, q6324, none⟩) ((idx l6197 x5640).length) c6319])] [.p, .p, .x, .l 0 0, .p, .x] [(50, .slice (some ⟨b6314, 0, none⟩) l6197.length c6199), (51, .int .i64 x5640), (52, .pointer (some ⟨b6314, 0 + x5640.toNat * 1, none⟩)), (53, .slice (some ⟨b6323, q6324, none⟩) ((idx l6197 x5640).length) c6319), (54, .int .i64 x6200), (55, .pointer (some ⟨b6323, q6324 + x6200.toNat * 1, none⟩))] [(x5640, l6197.length), (x6200, (idx l6197 x5640).length)] ⟨hg6315.ok, trivial⟩ ⟨g6313, g6322, trivial⟩ (by kernel_rfl) (by kernel_rfl) (by kernel_rfl) ?_
                refine o_eff 6 _ rfl (by kernel_rfl) ?_
                refine e_put2 4 _ _ 1 b6314 27 4 l6197.length c6199 l6197 x5640 b6323 q6324 ((idx l6197 x5640).length) c6319 true x6200 0 (.bool true) rfl (by kernel_rfl) (by kernel_rfl) (by kernel_rfl) (by kernel_rfl) hI rfl g6313 (Lies.ok hg6315) g6322 (by kernel_rfl) (by kernel_rfl) ?_
                clear hI
                intro _ hI
                refine r_out (by kernel_rfl) ?_
                refine go_inBlock ?_
                refine go_is 6 (.slice (some ⟨b6314, 0, none⟩) l6197.length c6199) (.slice (some ⟨b6314, 0, none⟩) ((l6197.set x5640.toNat ((idx l6197 x5640).set x6200.toNat true)).length) c6199) (by kernel_rfl) (by first | rfl | simp only [List.length_set, List.length_replicate, List.length_nil]) ?_
                replace hI := hI.renum 1 rfl
                exact hJ6285 (l6197.set x5640.toNat ((idx l6197 x5640).set x6200.toNat true)) _ _ ⟨_, (some ⟨b6314, 0, none⟩), c6199, at_slots _ (by kernel_rfl), hI⟩ H
              · refine go_else' (t := b6310) (by kernel_rfl) hc6312 ?_
                refine go_skip ?_
                refine go_inBlock ?_
                exact hJ6285 l6197 _ _ ⟨_, A6198, c6199, at_slots _ (by kernel_rfl), hI⟩ H
            · refine r_in ?_
              replace H := must_some H
              obtain ⟨g6325, H⟩ := H
              obtain ⟨b6326, rfl⟩ := hI.rowAt 1 rfl g6325
              obtain ⟨cs6329, hk6328, hg6327⟩ := rdS.look (hI.row 1 rfl) (hI.rowlen 1 rfl) g6325
              obtain ⟨A6330, c6331, rfl, hl6333, hr6332⟩ := hk6328
              replace H := must_some H
              obtain ⟨g6334, H⟩ := H
              obtain ⟨b6335, q6336, rfl, _⟩ := rdS.fopen hr6332 rfl g6334
              replace H := cond_some H
              rcases H with ⟨hc6337, H⟩ | ⟨hc6337, H⟩
              · replace H := must_some H
                obtain ⟨g6338, H⟩ := H
                obtain ⟨cs6341, hk6340, hg6339⟩ := rdS.look (hI.row 1 rfl) (hI.rowlen 1 rfl) g6338
                obtain ⟨A6342, c6343, rfl, hl6345, hr6344⟩ := hk6340
                replace H := must_some H
                obtain ⟨g6346, H⟩ := H
                obtain ⟨b6347, q6348, rfl, _⟩ := rdS.fopen hr6344 rfl g6346
                refine o_batch 0 [(b6326, 0 + x5640.toNat * 1, [.slice (some ⟨b6335, q6336, none⟩) ((idx l6197 x5640).length) c6331]), (b6335, q6336 + x3885.toNat * 1, [.bool (idx (idx l6197 x5640) x3885)]), (b6326, 0 + x3885.toNat * 1, [.slice (some ⟨b6347, q6348, none⟩) ((idx l6197 x3885).length) c6343]), (b6347, q6348 + x6200.toNat * 1, [.bool (idx (idx l6197 x3885) x6200)])] [.p, .p, .x, .l 0 0, .p, .x, .l 1 0, .c true, .p, .p, .x, .l 2 0, .p, .x, .l 3 0, .p] [(34, .slice (some ⟨b6326, 0, none⟩) l6197.length c6199), (35, .int .i64 x5640), (36, .pointer (some ⟨b6326, 0 + x5640.toNat * 1, none⟩)), (37, .slice (some ⟨b6335, q6336, none⟩) ((idx l6197 x5640).length) c6331), (38, .int .i64 x3885), (39, .pointer (some ⟨b6335, q6336 + x3885.toNat * 1, none⟩)), (40, .bool (idx (idx l6197 x5640) x3885)), (41, .bool true), (42, .slice (some ⟨b6326, 0, none⟩) l6197.length c6199), (43, .int .i64 x3885), (44, .pointer (some ⟨b6326, 0 + x3885.toNat * 1, none⟩)), (45, .slice (some ⟨b6347, q6348, none⟩) ((idx l6197 x3885).length) c6343), (46, .int .i64 x6200), (47, .pointer (some ⟨b6347, q6348 + x6200.toNat * 1, none⟩)), (48, .bool (idx (idx l6197 x3885) x6200)), (49, .bool (idx (idx l6197 x3885) x6200))] [(x5640, l6197.length), (x3885, (idx l6197 x5640).length), ((bif (idx (idx l6197 x5640) x3885) == true then 0 else -1), 1), (x3885, l6197.length), (x6200, (idx l6197 x3885).length)] ⟨hg6327.ok, (rdS.flook hr6332 rfl g6334).ok, hg6339.ok, (rdS.flook hr6344 rfl g6346).ok, trivial⟩ ⟨g6325, g6334, (bndEq hc6337), g6338, g6346, trivial⟩ (by kernel_rfl) (by kernel_rfl) (by kernel_rfl) ?_
                refine r_out (by kernel_rfl) ?_
                exact hJ6311 (idx (idx l6197 x3885) x6200) _ _ ⟨_, at_slots _ (by kernel_rfl), hI⟩ H
              · refine o_batch 0 [(b6326, 0 + x5640.toNat * 1, [.slice (some ⟨b6335, q6336, none⟩) ((idx l6197 x5640).length) c6331]), (b6335, q6336 + x3885.toNat * 1, [.bool (idx (idx l6197 x5640) x3885)])] [.p, .p, .x, .l 0 0, .p, .x, .l 1 0, .c false, .p, .p, .p, .p, .p, .p, .p, .p] [(34, .slice (some ⟨b6326, 0, none⟩) l6197.length c6199), (35, .int .i64 x5640), (36, .pointer (some ⟨b6326, 0 + x5640.toNat * 1, none⟩)), (37, .slice (some ⟨b6335, q6336, none⟩) ((idx l6197 x5640).length) c6331), (38, .int .i64 x3885), (39, .pointer (some ⟨b6335, q6336 + x3885.toNat * 1, none⟩)), (40, .bool (idx (idx l6197 x5640) x3885)), (41, .bool false), (42, undef), (43, undef), (44, undef), (45, undef), (46, undef), (47, undef), (48, undef), (49, .bool false)] [(x5640, l6197.length), (x3885, (idx l6197 x5640).length), ((bif (idx (idx l6197 x5640) x3885) == false then 0 else -1), 1)] ⟨hg6327.ok, (rdS.flook hr6332 rfl g6334).ok, trivial⟩ ⟨g6325, g6334, (bndEq hc6337), trivial⟩ (by kernel_rfl) (by kernel_rfl) (by kernel_rfl) ?_
                refine r_out (by kernel_rfl) ?_
                exact hJ6311 false _ _ ⟨_, at_slots _ (by kernel_rfl), hI⟩ H
        · refine go_else' (t := decide (x6200 < a0.N)) (by kernel_rfl) hc6202 ?_
          refine go_exit rfl ?_
          refine go_inBlock ?_
          refine r_in ?_
          refine o_batch 0 [] [.p, .p, .p] [(26, .int .i64 x5640), (27, .int .i64 (w64 (x5640 + 1))), (8, .int .i64 (w64 (x5640 + 1)))] [] trivial trivial (by kernel_rfl) (by kernel_rfl) (by kernel_rfl) ?_
          refine r_out (by kernel_rfl) ?_
          replace H := out_some H
          obtain ⟨_, H, he3⟩ := H
          have he := (hout3 _ he3).symm
          subst he
          exact hin2 _ (Option.some.inj H).symm _ _ ⟨_, A6198, c6199, at_slots _ (by kernel_rfl), hI⟩
      · refine go_else' (t := decide (x5640 < a0.N)) (by kernel_rfl) hc5642 ?_
        refine go_exit rfl ?_
        refine go_inBlock ?_
        refine r_in ?_
        refine o_batch 0 [] [.p, .p, .p] [(20, .int .i64 x3885), (21, .int .i64 (w64 (x3885 + 1))), (7, .int .i64 (w64 (x3885 + 1)))] [] trivial trivial (by kernel_rfl) (by kernel_rfl) (by kernel_rfl) ?_
        refine r_out (by kernel_rfl) ?_
        replace H := out_some H
        obtain ⟨_, H, he2⟩ := H
        have he := (hout2 _ he2).symm
        subst he
        exact hin1 _ (Option.some.inj H).symm _ _ ⟨_, A5638, c5639, at_slots _ (by kernel_rfl), hI⟩
    · refine go_else' (t := decide (x3885 < a0.N)) (by kernel_rfl) hc3887 ?_
      refine go_exit rfl ?_
      refine go_seq ?_
      refine r_in ?_
      refine o_batch 0 [] [.p, .p, .p] [(56, .slice A3883 l3882.length c3884), (4, .slice A3883 l3882.length c3884), (5, .int .i64 0)] [] trivial trivial (by kernel_rfl) (by kernel_rfl) (by kernel_rfl) ?_
      refine r_out (by kernel_rfl) ?_
      replace H := out_some H
      obtain ⟨_, H, he1⟩ := H
      have he := (hout1 _ he1).symm
      subst he
      replace H := Option.some.inj H
      subst H
      exact go_return (.tuple #[.slice A3883 l3882.length c3884, .int .i64 0]) Tryd.func15 (by kernel_rfl) ⟨A3883, c3884, rfl, hI.pick [1] (by decide) rfl⟩

/-! ### assizeref06.SameBools -/
theorem enter16 (a : Array Value) : Sem.pureRun Tryd.prog (callFunc 16 a) = some (.enter 16 a) := by kernel_rfl
theorem assizeref06zSameBools_calls (A0z : Option Addr) (c0z : Nat) (a0 : List Bool) (A1z : Option Addr) (c1z : Nat) (a1 : List Bool) (M : Mem) (w : World) (hI : Inv M w []) (hr0z : rdS tBool M.blk A0z a0) (hl0z : a0.length ≤ c0z) (hr1z : rdS tBool M.blk A1z a1) (hl1z : a1.length ≤ c1z) (r : Bool) (H : assizeref06zSameBools a0 a1 = some r) :
    Calls Tryd.prog 16 #[.slice A0z a0.length c0z, .slice A1z a1.length c1z] w fun e w' => e = .returned (.bool r) ∧ Inv M w' [] := by
  refine calls_go (updL (fun _ => undef) [(0, .slice A0z a0.length c0z), (1, .slice A1z a1.length c1z)]) Tryd.func16 rfl (by kernel_rfl) ?_
  intro cs
  unfold assizeref06zSameBools at H
  refine go_seq ?_
  refine r_in ?_
  refine o_batch 0 [] [.p] [(4, .bool false)] [] trivial trivial (by kernel_rfl) (by kernel_rfl) (by kernel_rfl) ?_
  refine r_out (by kernel_rfl) ?_
  refine go_seq ?_
  refine go_seq ?_
  refine r_in ?_
  refine o_batch 0 [] [.p, .p, .p, .p, .p] [(6, .slice A0z a0.length c0z), (7, .int .i64 (a0.length : Int)), (8, .slice A1z a1.length c1z), (9, .int .i64 (a1.length : Int)), (10, .bool ((a0.length : Int) != (a1.length : Int)))] [] trivial trivial (by kernel_rfl) (by kernel_rfl) (by kernel_rfl) ?_
  refine r_out (by kernel_rfl) ?_
  replace H := cond_some H
  rcases H with ⟨hc2, H⟩ | ⟨hc2, H⟩
  · refine go_then' (t := ((a0.length : Int) != (a1.length : Int))) (by kernel_rfl) hc2 ?_
    refine go_seq ?_
    refine r_in ?_
    refine o_batch 0 [] [.p] [(4, .bool false)] [] trivial trivial (by kernel_rfl) (by kernel_rfl) (by kernel_rfl) ?_
    refine r_out (by kernel_rfl) ?_
    replace H := Option.some.inj H
    subst H
    exact go_return (.bool false) Tryd.func16 (by kernel_rfl) ⟨rfl, hI⟩
  · refine go_else' (t := ((a0.length : Int) != (a1.length : Int))) (by kernel_rfl) hc2 ?_
    refine go_skip ?_
    refine go_seq ?_
    refine go_seq ?_
    refine r_in ?_
    refine o_batch 0 [] [.p] [(5, .int .i64 0)] [] trivial trivial (by kernel_rfl) (by kernel_rfl) (by kernel_rfl) ?_
    refine r_out (by kernel_rfl) ?_
    refine go_block ?_
    refine go_iter (assizeref06zSameBools.s1 a0 a1) (fun x84 f w => ∃ (j : Nat → Value), f = updL j [(0, .slice A0z a0.length c0z), (1, .slice A1z a1.length c1z), (5, .int .i64 x84)] ∧ Inv M w []) H ⟨_, at_slots _ (by kernel_rfl), hI⟩ ?_
    clear H hI
    rintro x84 _ _ o1 H ⟨_, rfl, hI⟩ hin1 hout1
    refine go_seq ?_
    refine go_seq ?_
    refine r_in ?_
    refine o_batch 0 [] [.p, .p, .p, .p] [(11, .int .i64 x84), (12, .slice A0z a0.length c0z), (13, .int .i64 (a0.length : Int)), (14, .bool (decide (x84 < (a0.length : Int))))] [] trivial trivial (by kernel_rfl) (by kernel_rfl) (by kernel_rfl) ?_
    refine r_out (by kernel_rfl) ?_
    replace H := cond_some H
    rcases H with ⟨hc86, H⟩ | ⟨hc86, H⟩
    · refine go_then' (t := decide (x84 < (a0.length : Int))) (by kernel_rfl) hc86 ?_
      refine go_skip ?_
      refine go_seq ?_
      refine go_block ?_
      refine go_seq ?_
      replace H := must_some H
      obtain ⟨g107, H⟩ := H
      obtain ⟨b108, q109, rfl, _⟩ := rdS.fopen hr0z rfl g107
      replace H := must_some H
      obtain ⟨g110, H⟩ := H
      obtain ⟨b111, q112, rfl, _⟩ := rdS.fopen hr1z rfl g110
      refine d_still [(b108, q109 + x84.toNat * 1, [.bool (idx a0 x84)]), (b111, q112 + x84.toNat * 1, [.bool (idx a1 x84)])] [.p, .p, .x, .l 0 0, .p, .p, .x, .l 1 0, .p] [(17, .slice (some ⟨b108, q109, none⟩) a0.length c0z), (18, .int .i64 x84), (19, .pointer (some ⟨b108, q109 + x84.toNat * 1, none⟩)), (20, .bool (idx a0 x84)), (21, .slice (some ⟨b111, q112, none⟩) a1.length c1z), (22, .int .i64 x84), (23, .pointer (some ⟨b111, q112 + x84.toNat * 1, none⟩)), (24, .bool (idx a1 x84)), (25, .bool (idx a0 x84 != idx a1 x84))] [(x84, a0.length), (x84, a1.length)] (by kernel_rfl) (by kernel_rfl) rfl ⟨(hI.lies (rdS.flook hr0z rfl g107)), (hI.lies (rdS.flook hr1z rfl g110)), trivial⟩ ⟨g107, g110, trivial⟩ (by kernel_rfl) (by kernel_rfl) (by kernel_rfl) hI ?_
      clear hI
      intro _ hI
      replace H := cond_some H
      rcases H with ⟨hc113, H⟩ | ⟨hc113, H⟩
      · refine go_then' (t := (idx a0 x84 != idx a1 x84)) (by kernel_rfl) hc113 ?_
        refine go_seq ?_
        refine r_in ?_
        refine o_batch 0 [] [.p] [(4, .bool false)] [] trivial trivial (by kernel_rfl) (by kernel_rfl) (by kernel_rfl) ?_
        refine r_out (by kernel_rfl) ?_
        replace H := out_some H
        obtain ⟨_, H, he1⟩ := H
        have he := (hout1 _ he1).symm
        subst he
        replace H := Option.some.inj H
        subst H
        exact go_return (.bool false) Tryd.func16 (by kernel_rfl) ⟨rfl, hI⟩
      · refine go_else' (t := (idx a0 x84 != idx a1 x84)) (by kernel_rfl) hc113 ?_
        refine go_skip ?_
        refine go_inBlock ?_
        refine r_in ?_
        refine o_batch 0 [] [.p, .p, .p] [(15, .int .i64 x84), (16, .int .i64 (w64 (x84 + 1))), (5, .int .i64 (w64 (x84 + 1)))] [] trivial trivial (by kernel_rfl) (by kernel_rfl) (by kernel_rfl) ?_
        refine r_out (by kernel_rfl) ?_
        exact hin1 _ (Option.some.inj H).symm _ _ ⟨_, at_slots _ (by kernel_rfl), hI⟩
    · refine go_else' (t := decide (x84 < (a0.length : Int))) (by kernel_rfl) hc86 ?_
      refine go_exit rfl ?_
      refine go_seq ?_
      refine r_in ?_
      refine o_batch 0 [] [.p] [(4, .bool true)] [] trivial trivial (by kernel_rfl) (by kernel_rfl) (by kernel_rfl) ?_
      refine r_out (by kernel_rfl) ?_
      replace H := out_some H
      obtain ⟨_, H, he1⟩ := H
      have he := (hout1 _ he1).symm
      subst he
      replace H := Option.some.inj H
      subst H
      exact go_return (.bool true) Tryd.func16 (by kernel_rfl) ⟨rfl, hI⟩

/-! ### assizelaw06.sameAll -/
theorem enter17 (a : Array Value) : Sem.pureRun Tryd.prog (callFunc 17 a) = some (.enter 17 a) := by kernel_rfl
theorem assizelaw06zsameAll_calls (A0z : Option Addr) (c0z : Nat) (a0 : List (List Bool)) (A1z : Option Addr) (c1z : Nat) (a1 : List (List Bool)) (M : Mem) (w : World) (hI : Inv M w []) (hr0z : rdS (tSlice 4 tBool) M.blk A0z a0) (hl0z : a0.length ≤ c0z) (hr1z : rdS (tSlice 4 tBool) M.blk A1z a1) (hl1z : a1.length ≤ c1z) (r : Bool) (H : assizelaw06zsameAll a0 a1 = some r) :
    Calls Tryd.prog 17 #[.slice A0z a0.length c0z, .slice A1z a1.length c1z] w fun e w' => e = .returned (.bool r) ∧ Inv M w' [] := by
  refine calls_go (updL (fun _ => undef) [(0, .slice A0z a0.length c0z), (1, .slice A1z a1.length c1z)]) Tryd.func17 rfl (by kernel_rfl) ?_
  intro cs
  unfold assizelaw06zsameAll at H
  refine go_seq ?_
  refine r_in ?_
  refine o_batch 0 [] [.p] [(4, .bool false)] [] trivial trivial (by kernel_rfl) (by kernel_rfl) (by kernel_rfl) ?_
  refine r_out (by kernel_rfl) ?_
  refine go_seq ?_
  refine go_seq ?_
  refine r_in ?_
  refine o_batch 0 [] [.p, .p, .p, .p, .p] [(6, .slice A0z a0.length c0z), (7, .int .i64 (a0.length : Int)), (8, .slice A1z a1.length c1z), (9, .int .i64 (a1.length : Int)), (10, .bool ((a0.length : Int) != (a1.length : Int)))] [] trivial trivial (by kernel_rfl) (by kernel_rfl) (by kernel_rfl) ?_
  refine r_out (by kernel_rfl) ?_
  replace H := cond_some H
  rcases H with ⟨hc2, H⟩ | ⟨hc2, H⟩
  · refine go_then' (t := ((a0.length : Int) != (a1.length : Int))) (by kernel_rfl) hc2 ?_
    refine go_seq ?_
    refine r_in ?_
    refine o_batch 0 [] [.p] [(4, .bool false)] [] trivial trivial (by kernel_rfl) (by kernel_rfl) (by kernel_rfl) ?_
    refine r_out (by kernel_rfl) ?_
    replace H := Option.some.inj H
    subst H
    exact go_return (.bool false) Tryd.func17 (by kernel_rfl) ⟨rfl, hI⟩
  · refine go_else' (t := ((a0.length : Int) != (a1.length : Int))) (by kernel_rfl) hc2 ?_
    refine go_skip ?_
    refine go_seq ?_
    refine go_seq ?_
    refine r_in ?_
    refine o_batch 0 [] [.p] [(5, .int .i64 0)] [] trivial trivial (by kernel_rfl) (by kernel_rfl) (by kernel_rfl) ?_
    refine r_out (by kernel_rfl) ?_
    refine go_block ?_
    refine go_iter (assizelaw06zsameAll.s1 a0 a1) (fun x212 f w => ∃ (j : Nat → Value), f = updL j [(0, .slice A0z a0.length c0z), (1, .slice A1z a1.length c1z), (5, .int .i64 x212)] ∧ Inv M w []) H ⟨_, at_slots _ (by kernel_rfl), hI⟩ ?_
    clear H hI
    rintro x212 _ _ o1 H ⟨_, rfl, hI⟩ hin1 hout1
    refine go_seq ?_
    refine go_seq ?_
    refine r_in ?_
    refine o_batch 0 [] [.p, .p, .p, .p] [(11, .int .i64 x212), (12, .slice A0z a0.length c0z), (13, .int .i64 (a0.length : Int)), (14, .bool (decide (x212 < (a0.length : Int))))] [] trivial trivial (by kernel_rfl) (by kernel_rfl) (by kernel_rfl) ?_
    refine r_out (by kernel_rfl) ?_
    replace H := cond_some H
    rcases H with ⟨hc214, H⟩ | ⟨hc214, H⟩
    · refine go_then' (t := decide (x212 < (a0.length : Int))) (by kernel_rfl) hc214 ?_
      refine go_skip ?_
      refine go_seq ?_
      refine go_block ?_
      refine go_seq ?_
      replace H := must_some H
      obtain ⟨g283, H⟩ := H
      obtain ⟨b287, q288, rfl, cs286, hk285, hg284⟩ := rdS.open hr0z rfl g283
      obtain ⟨A289, c290, rfl, hl292, hr291⟩ := hk285
      replace H := must_some H
      obtain ⟨g293, H⟩ := H
      obtain ⟨b297, q298, rfl, cs296, hk295, hg294⟩ := rdS.open hr1z rfl g293
      obtain ⟨A299, c300, rfl, hl302, hr301⟩ := hk295
      replace H := bind_some H
      obtain ⟨y303, hy304, H⟩ := H
      refine go_held (fun w => Inv M w []) (by kernel_rfl) ?_
      replace hI := hI.drew'
      refine held_batch (n := 2) [(b287, q288 + x212.toNat * 1, [.slice A289 ((idx a0 x212).length) c290]), (b297, q298 + x212.toNat * 1, [.slice A299 ((idx a1 x212).length) c300])] [(0, .p), (1, .p), (2, .x), (3, .l 0 0), (4, .p), (5, .p), (6, .x), (7, .l 1 0)] [(17, .slice (some ⟨b287, q288, none⟩) a0.length c0z), (18, .int .i64 x212), (19, .pointer (some ⟨b287, q288 + x212.toNat * 1, none⟩)), (20, .slice A289 ((idx a0 x212).length) c290), (21, .slice (some ⟨b297, q298, none⟩) a1.length c1z), (22, .int .i64 x212), (23, .pointer (some ⟨b297, q298 + x212.toNat * 1, none⟩)), (24, .slice A299 ((idx a1 x212).length) c300)] [(x212, a0.length), (x212, a1.length)] [true, true, true, true, true, true, true, true, false, false] (by kernel_rfl) (fun w hS => ⟨(hS.lies hg284), (hS.lies hg294), trivial⟩) hI ⟨g283, g293, trivial⟩ (by kernel_rfl) (by kernel_rfl) (by kernel_rfl) ?_
      refine held_one (n := 1) 8 _ rfl (by kernel_rfl) (by kernel_rfl) (e_callf _ _ _ 16 #[] #[] #[.slice A289 ((idx a0 x212).length) c290, .slice A299 ((idx a1 x212).length) c300] #[.slice A289 ((idx a0 x212).length) c290, .slice A299 ((idx a1 x212).length) c300] rfl (by kernel_rfl) (by kernel_rfl) (by kernel_rfl) (enter16 _) (assizeref06zSameBools_calls A289 c290 (idx a0 x212) A299 c300 (idx a1 x212) (memOf _) _ (Inv.start _) (hI.rd hr291) hl292 (hI.rd hr301) hl302 _ hy304) ?_)
      rintro _ _ ⟨rfl, hI'⟩
      replace hI := hI.call0 hI'
      clear hI'
      refine ⟨_, rfl, ?_⟩
      refine ⟨hI, ?_⟩
      refine held_batch (n := 0) [] [(9, .p)] [(26, .bool (!y303))] [] [true, true, true, true, true, true, true, true, true, true] (by kernel_rfl) (fun w hS => trivial) hI trivial (by kernel_rfl) (by kernel_rfl) (by kernel_rfl) ?_
      refine held_done (by kernel_rfl) ?_
      replace H := cond_some H
      rcases H with ⟨hc305, H⟩ | ⟨hc305, H⟩
      · refine go_then' (t := !y303) (by kernel_rfl) hc305 ?_
        refine go_seq ?_
        refine r_in ?_
        refine o_batch 0 [] [.p] [(4, .bool false)] [] trivial trivial (by kernel_rfl) (by kernel_rfl) (by kernel_rfl) ?_
        refine r_out (by kernel_rfl) ?_
        replace H := out_some H
        obtain ⟨_, H, he1⟩ := H
        have he := (hout1 _ he1).symm
        subst he
        replace H := Option.some.inj H
        subst H
        exact go_return (.bool false) Tryd.func17 (by kernel_rfl) ⟨rfl, hI⟩
      · refine go_else' (t := !y303) (by kernel_rfl) hc305 ?_
        refine go_skip ?_
        refine go_inBlock ?_
        refine r_in ?_
        refine o_batch 0 [] [.p, .p, .p] [(15, .int .i64 x212), (16, .int .i64 (w64 (x212 + 1))), (5, .int .i64 (w64 (x212 + 1)))] [] trivial trivial (by kernel_rfl) (by kernel_rfl) (by kernel_rfl) ?_
        refine r_out (by kernel_rfl) ?_
        exact hin1 _ (Option.some.inj H).symm _ _ ⟨_, at_slots _ (by kernel_rfl), hI⟩
    · refine go_else' (t := decide (x212 < (a0.length : Int))) (by kernel_rfl) hc214 ?_
      refine go_exit rfl ?_
      refine go_seq ?_
      refine r_in ?_
      refine o_batch 0 [] [.p] [(4, .bool true)] [] trivial trivial (by kernel_rfl) (by kernel_rfl) (by kernel_rfl) ?_
      refine r_out (by kernel_rfl) ?_
      replace H := out_some H
      obtain ⟨_, H, he1⟩ := H
      have he := (hout1 _ he1).symm
      subst he
      replace H := Option.some.inj H
      subst H
      exact go_return (.bool true) Tryd.func17 (by kernel_rfl) ⟨rfl, hI⟩

/-! ### assizelaw06.GraphKeeps -/
theorem enter5 (a : Array Value) : Sem.pureRun Tryd.prog (callFunc 5 a) = some (.enter 5 a) := by kernel_rfl
theorem assizelaw06zGraphKeeps_calls (a0 : Graph) (A0z0 : Option Addr) (c0z0 : Nat) (a1 : Int) (M : Mem) (w : World) (hI : Inv M w []) (hT : TabM M.blk) (hr0z0 : rdS kEdge M.blk A0z0 a0.Edges) (hl0z0 : a0.Edges.length ≤ c0z0) (r : Bool) (H : assizelaw06zGraphKeeps a0 a1 = some r) :
    Calls Tryd.prog 5 #[.agg #[.int .i64 a0.N, .slice A0z0 a0.Edges.length c0z0], .int .i64 a1] w fun e w' => e = .returned (.bool r) ∧ Inv M w' [] := by
  refine calls_go (updL (fun _ => undef) [(0, .agg #[.int .i64 a0.N, .slice A0z0 a0.Edges.length c0z0]), (1, .int .i64 a1)]) Tryd.func5 rfl (by kernel_rfl) ?_
  intro cs
  unfold assizelaw06zGraphKeeps at H
  refine go_seq ?_
  refine r_in ?_
  refine o_eff 0 _ rfl (by kernel_rfl) ?_
  refine e_box 24 _ (.agg #[.int .i64 a0.N, .slice A0z0 a0.Edges.length c0z0]) [.int .i64 a0.N, .slice A0z0 a0.Edges.length c0z0] rfl (by kernel_rfl) rfl hI ?_
  clear hI
  intro b2 _ hI
  refine o_batch 1 [] [.p] [(4, .bool false)] [] trivial trivial (by kernel_rfl) (by kernel_rfl) (by kernel_rfl) ?_
  refine r_out (by kernel_rfl) ?_
  refine go_seq ?_
  refine go_seq ?_
  refine r_in ?_
  replace H := bind_some H
  obtain ⟨y8, hy9, H⟩ := H
  refine o_eff 0 _ rfl (by kernel_rfl) ?_
  refine e_callf _ _ _ 10 #[] #[] #[] #[] rfl (by kernel_rfl) (by kernel_rfl) (by kernel_rfl) (enter10 _) (assizelaw06zalive_calls (memOf _) _ (Inv.start _) (hI.rd hT) _ hy9) ?_
  rintro _ _ ⟨rfl, hI'⟩
  replace hI := hI.call0 hI'
  clear hI'
  refine ⟨_, rfl, ?_⟩
  refine o_batch 1 [] [.p] [(14, .bool (!y8))] [] trivial trivial (by kernel_rfl) (by kernel_rfl) (by kernel_rfl) ?_
  refine r_out (by kernel_rfl) ?_
  replace H := cond_some H
  rcases H with ⟨hc10, H⟩ | ⟨hc10, H⟩
  · refine go_then' (t := !y8) (by kernel_rfl) hc10 ?_
    refine go_seq ?_
    refine r_in ?_
    refine o_batch 0 [] [.p] [(4, .bool false)] [] trivial trivial (by kernel_rfl) (by kernel_rfl) (by kernel_rfl) ?_
    refine r_out (by kernel_rfl) ?_
    replace H := Option.some.inj H
    subst H
    exact go_return (.bool false) Tryd.func5 (by kernel_rfl) ⟨rfl, hI.pick [] (by decide) rfl⟩
  · refine go_else' (t := !y8) (by kernel_rfl) hc10 ?_
    refine go_skip ?_
    refine go_seq ?_
    refine r_in ?_
    refine o_batch 0 [(b2, 0, [.int .i64 a0.N, .slice A0z0 a0.Edges.length c0z0])] [.l 0 0, .p] [(16, .agg #[.int .i64 a0.N, .slice A0z0 a0.Edges.length c0z0]), (17, .int .i64 a1)] [] ⟨(hI.grp 0 rfl), trivial⟩ trivial (by kernel_rfl) (by kernel_rfl) (by kernel_rfl) ?_
    replace H := bind_some H
    obtain ⟨y15, hy16, H⟩ := H
    refine o_eff 2 _ rfl (by kernel_rfl) ?_
    refine e_callf _ _ _ 14 #[] #[] #[.agg #[.int .i64 a0.N, .slice A0z0 a0.Edges.length c0z0], .int .i64 a1] #[.agg #[.int .i64 a0.N, .slice A0z0 a0.Edges.length c0z0], .int .i64 a1] rfl (by kernel_rfl) (by kernel_rfl) (by kernel_rfl) (enter14 _) (graph_Closure_calls a0 A0z0 c0z0 a1 (memOf _) _ (Inv.start _) (hI.rd hT) (hI.rd hr0z0) hl0z0 _ hy16) ?_
    rintro _ _ ⟨A17, c18, rfl, hI'⟩
    replace hI := hI.call0 hI'
    clear hI'
    refine ⟨_, rfl, ?_⟩
    refine o_batch 3 [] [.p, .p, .p, .p, .p] [(15, .tuple #[.slice A17 y15.1.length c18, .int .i64 y15.2]), (19, .slice A17 y15.1.length c18), (20, .int .i64 y15.2), (5, .slice A17 y15.1.length c18), (6, .int .i64 y15.2)] [] trivial trivial (by kernel_rfl) (by kernel_rfl) (by kernel_rfl) ?_
    refine r_out (by kernel_rfl) ?_
    refine go_seq ?_
    refine r_in ?_
    refine o_batch 0 [(b2, 0, [.int .i64 a0.N, .slice A0z0 a0.Edges.length c0z0])] [.l 0 0, .p] [(22, .agg #[.int .i64 a0.N, .slice A0z0 a0.Edges.length c0z0]), (23, .int .i64 a1)] [] ⟨(hI.grp 0 rfl), trivial⟩ trivial (by kernel_rfl) (by kernel_rfl) (by kernel_rfl) ?_
    replace H := bind_some H
    obtain ⟨y23, hy24, H⟩ := H
    refine o_eff 2 _ rfl (by kernel_rfl) ?_
    refine e_callf _ _ _ 14 #[] #[] #[.agg #[.int .i64 a0.N, .slice A0z0 a0.Edges.length c0z0], .int .i64 a1] #[.agg #[.int .i64 a0.N, .slice A0z0 a0.Edges.length c0z0], .int .i64 a1] rfl (by kernel_rfl) (by kernel_rfl) (by kernel_rfl) (enter14 _) (graph_Closure_calls a0 A0z0 c0z0 a1 (memOf _) _ (Inv.start _) (hI.rd hT) (hI.rd hr0z0) hl0z0 _ hy24) ?_
    rintro _ _ ⟨A25, c26, rfl, hI'⟩
    replace hI := hI.call0 hI'
    clear hI'
    refine ⟨_, rfl, ?_⟩
    refine o_batch 3 [] [.p, .p, .p, .p, .p] [(21, .tuple #[.slice A25 y23.1.length c26, .int .i64 y23.2]), (25, .slice A25 y23.1.length c26), (26, .int .i64 y23.2), (7, .slice A25 y23.1.length c26), (8, .int .i64 y23.2)] [] trivial trivial (by kernel_rfl) (by kernel_rfl) (by kernel_rfl) ?_
    refine r_out (by kernel_rfl) ?_
    refine go_seq ?_
    refine r_in ?_
    refine o_batch 0 [(b2, 0, [.int .i64 a0.N, .slice A0z0 a0.Edges.length c0z0])] [.l 0 0, .p] [(28, .agg #[.int .i64 a0.N, .slice A0z0 a0.Edges.length c0z0]), (29, .int .i64 a1)] [] ⟨(hI.grp 0 rfl), trivial⟩ trivial (by kernel_rfl) (by kernel_rfl) (by kernel_rfl) ?_
    replace H := bind_some H
    obtain ⟨y31, hy32, H⟩ := H
    refine o_eff 2 _ rfl (by kernel_rfl) ?_
    refine e_callf _ _ _ 15 #[] #[] #[.agg #[.int .i64 a0.N, .slice A0z0 a0.Edges.length c0z0], .int .i64 a1] #[.agg #[.int .i64 a0.N, .slice A0z0 a0.Edges.length c0z0], .int .i64 a1] rfl (by kernel_rfl) (by kernel_rfl) (by kernel_rfl) (enter15 _) (assizeref06zClosure_calls a0 A0z0 c0z0 a1 (memOf _) _ (Inv.start _) (hI.rd hr0z0) hl0z0 _ hy32) ?_
    rintro _ _ ⟨A33, c34, rfl, hI'⟩
    replace hI := hI.call0 hI'
    clear hI'
    refine ⟨_, rfl, ?_⟩
    refine o_batch 3 [] [.p, .p, .p, .p, .p] [(27, .tuple #[.slice A33 y31.1.length c34, .int .i64 y31.2]), (31, .slice A33 y31.1.length c34), (32, .int .i64 y31.2), (9, .slice A33 y31.1.length c34), (10, .int .i64 y31.2)] [] trivial trivial (by kernel_rfl) (by kernel_rfl) (by kernel_rfl) ?_
    refine r_out (by kernel_rfl) ?_
    refine go_seq ?_
    refine go_seq_join (o := r) (fun b41 f w => ∃ (j : Nat → Value), f = updL j [(5, .slice A17 y15.1.length c18), (7, .slice A25 y23.1.length c26), (9, .slice A33 y31.1.length c34), (47, .bool b41)] ∧ Inv M w [.row (tSlice 4 tBool) 27 A17 y15.1.length c18 y15.1, .row (tSlice 4 tBool) 27 A25 y23.1.length c26 y23.1, .row (tSlice 4 tBool) 27 A33 y31.1.length c34 y31.1]) (fun b41 => assizelaw06zGraphKeeps.j1 y15 y23 y31 b41) ?_ (fun hJ42 => ?_)
    · clear H hI
      rintro b41 _ _ ⟨_, rfl, hI⟩ H
      replace H := cond_some H
      rcases H with ⟨hc43, H⟩ | ⟨hc43, H⟩
      · refine go_then' (t := b41) (by kernel_rfl) hc43 ?_
        refine go_seq ?_
        refine r_in ?_
        refine o_batch 0 [] [.p] [(4, .bool false)] [] trivial trivial (by kernel_rfl) (by kernel_rfl) (by kernel_rfl) ?_
        refine r_out (by kernel_rfl) ?_
        replace H := Option.some.inj H
        subst H
        exact go_return (.bool false) Tryd.func5 (by kernel_rfl) ⟨rfl, hI.pick [] (by decide) rfl⟩
      · refine go_else' (t := b41) (by kernel_rfl) hc43 ?_
        refine go_skip ?_
        refine go_seq ?_
        refine go_seq ?_
        refine r_in ?_
        refine o_batch 0 [] [.p] [(11, .int .i64 0)] [] trivial trivial (by kernel_rfl) (by kernel_rfl) (by kernel_rfl) ?_
        refine r_out (by kernel_rfl) ?_
        refine go_block ?_
        refine go_iter (assizelaw06zGraphKeeps.s2 y23 y31) (fun (l1400, x1403) f w => ∃ (j : Nat → Value) (A1401 : Option Addr) (c1402 : Nat), f = updL j [(5, .slice A1401 l1400.length c1402), (7, .slice A25 y23.1.length c26), (9, .slice A33 y31.1.length c34), (11, .int .i64 x1403)] ∧ Inv M w [.row (tSlice 4 tBool) 27 A1401 l1400.length c1402 l1400, .row (tSlice 4 tBool) 27 A25 y23.1.length c26 y23.1, .row (tSlice 4 tBool) 27 A33 y31.1.length c34 y31.1]) H ⟨_, A17, c18, at_slots _ (by kernel_rfl), hI⟩ ?_
        clear H hI
        rintro ⟨l1400, x1403⟩ _ _ o1 H ⟨_, A1401, c1402, rfl, hI⟩ hin1 hout1
        refine go_seq ?_
        refine go_seq ?_
        refine r_in ?_
        refine o_batch 0 [] [.p, .p, .p, .p] [(48, .int .i64 x1403), (49, .slice A1401 l1400.length c1402), (50, .int .i64 (l1400.length : Int)), (51, .bool (decide (x1403 < (l1400.length : Int))))] [] trivial trivial (by kernel_rfl) (by kernel_rfl) (by kernel_rfl) ?_
        refine r_out (by kernel_rfl) ?_
        replace H := cond_some H
        rcases H with ⟨hc1405, H⟩ | ⟨hc1405, H⟩
        · refine go_then' (t := decide (x1403 < (l1400.length : Int))) (by kernel_rfl) hc1405 ?_
          refine go_skip ?_
          refine go_seq ?_
          refine go_block ?_
          refine go_seq ?_
          refine go_seq_join (o := o1) (fun b1800 f w => ∃ (j : Nat → Value), f = updL j [(5, .slice A1401 l1400.length c1402), (7, .slice A25 y23.1.length c26), (9, .slice A33 y31.1.length c34), (11, .int .i64 x1403), (63, .bool b1800)] ∧ Inv M w [.row (tSlice 4 tBool) 27 A1401 l1400.length c1402 l1400, .row (tSlice 4 tBool) 27 A25 y23.1.length c26 y23.1, .row (tSlice 4 tBool) 27 A33 y31.1.length c34 y31.1]) (fun b1800 => assizelaw06zGraphKeeps.j3 l1400 x1403 b1800) ?_ (fun hJ1801 => ?_)
          · clear H hI
            rintro b1800 _ _ ⟨_, rfl, hI⟩ H
            replace H := cond_some H
            rcases H with ⟨hc1802, H⟩ | ⟨hc1802, H⟩
            · refine go_then' (t := b1800) (by kernel_rfl) hc1802 ?_
              refine go_seq ?_
              refine r_in ?_
              refine o_batch 0 [] [.p] [(4, .bool false)] [] trivial trivial (by kernel_rfl) (by kernel_rfl) (by kernel_rfl) ?_
              refine r_out (by kernel_rfl) ?_
              replace H := out_some H
              obtain ⟨_, H, he1⟩ := H
              have he := (hout1 _ he1).symm
              subst he
              replace H := Option.some.inj H
              subst H
              exact go_return (.bool false) Tryd.func5 (by kernel_rfl) ⟨rfl, hI.pick [] (by decide) rfl⟩
            · refine go_else' (t := b1800) (by kernel_rfl) hc1802 ?_
              refine go_skip ?_
              refine go_seq ?_
              refine go_seq ?_
              refine r_in ?_
              refine o_batch 0 [] [.p] [(12, .int .i64 0)] [] trivial trivial (by kernel_rfl) (by kernel_rfl) (by kernel_rfl) ?_
              refine r_out (by kernel_rfl) ?_
              refine go_block ?_
              refine go_iter (assizelaw06zGraphKeeps.s4 x1403) (fun (l2103, x2106) f w => ∃ (j : Nat → Value) (A2104 : Option Addr) (c2105 : Nat), f = updL j [(5, .slice A2104 l2103.length c2105), (7, .slice A25 y23.1.length c26), (9, .slice A33 y31.1.length c34), (11, .int .i64 x1403), (12, .int .i64 x2106)] ∧ Inv M w [.row (tSlice 4 tBool) 27 A2104 l2103.length c2105 l2103, .row (tSlice 4 tBool) 27 A25 y23.1.length c26 y23.1, .row (tSlice 4 tBool) 27 A33 y31.1.length c34 y31.1]) H ⟨_, A1401, c1402, at_slots _ (by kernel_rfl), hI⟩ ?_
              clear H hI
              rintro ⟨l2103, x2106⟩ _ _ o2 H ⟨_, A2104, c2105, rfl, hI⟩ hin2 hout2
              refine go_seq ?_
              refine go_seq ?_
              refine r_in ?_
              replace H := must_some H
              obtain ⟨g2126, H⟩ := H
              obtain ⟨b2127, rfl⟩ := hI.rowAt 0 rfl g2126
              obtain ⟨cs2130, hk2129, hg2128⟩ := rdS.look (hI.row 0 rfl) (hI.rowlen 0 rfl) g2126
              obtain ⟨A2131, c2132, rfl, hl2134, hr2133⟩ := hk2129
              refine o_batch 0 [(b2127, 0 + x1403.toNat * 1, [.slice A2131 ((idx l2103 x1403).length) c2132])] [.p, .p, .p, .x, .l 0 0, .p, .p] [(64, .int .i64 x2106), (65, .slice (some ⟨b2127, 0, none⟩) l2103.length c2105), (66, .int .i64 x1403), (67, .pointer (some ⟨b2127, 0 + x1403.toNat * 1, none⟩)), (68, .slice A2131 ((idx l2103 x1403).length) c2132), (69, .int .i64 ((idx l2103 x1403).length : Int)), (70, .bool (decide (x2106 < ((idx l2103 x1403).length : Int))))] [(x1403, l2103.length)] ⟨hg2128.ok, trivial⟩ ⟨g2126, trivial⟩ (by kernel_rfl) (by kernel_rfl) (by kernel_rfl) ?_
              refine r_out (by kernel_rfl) ?_
              replace H := cond_some H
              rcases H with ⟨hc2135, H⟩ | ⟨hc2135, H⟩
              · refine go_then' (t := decide (x2106 < ((idx l2103 x1403).length : Int))) (by kernel_rfl) hc2135 ?_
                refine go_skip ?_
                refine go_seq ?_
                refine go_block ?_
                obtain ⟨cs2176, hk2175, hg2174⟩ := rdS.look (hI.row 0 rfl) (hI.rowlen 0 rfl) g2126
                obtain ⟨A2177, c2178, rfl, hl2180, hr2179⟩ := hk2175
                obtain ⟨cs2183, hk2182, hg2181⟩ := rdS.look (hI.row 0 rfl) (hI.rowlen 0 rfl) g2126
                obtain ⟨A2184, c2185, rfl, hl2187, hr2186⟩ := hk2182
                replace H := must_some H
                obtain ⟨g2188, H⟩ := H
                obtain ⟨b2189, q2190, rfl, _⟩ := rdS.fopen hr2186 rfl g2188
                obtain ⟨b2191, q2192, rfl, _⟩ := rdS.fopen hr2179 rfl g2188
                refine d_tail' 14 _ [(b2127, 0 + x1403.toNat * 1, [.slice (some ⟨b2191, q2192, none⟩) ((idx l2103 x1403).length) c2178]), (b2127, 0 + x1403.toNat * 1, [.slice (some ⟨b2189, q2190, none⟩) ((idx l2103 x1403).length) c2185]), (b2189, q2190 + x2106.toNat * 1, [.bool (idx (idx l2103 x1403) x2106)])] [.p, .p, .x, .l 0 0, .p, .p, .p, .x, .l 1 0, .p, .x, .l 2 0, .p, .x] [(73, .slice (some ⟨b2127, 0, none⟩) l2103.length c2105), (74, .int .i64 x1403), (75, .pointer (some ⟨b2127, 0 + x1403.toNat * 1, none⟩)), (76, .slice (some ⟨b2191, q2192, none⟩) ((idx l2103 x1403).length) c2178), (77, .int .i64 x2106), (78, .slice (some ⟨b2127, 0, none⟩) l2103.length c2105), (79, .int .i64 x1403), (80, .pointer (some ⟨b2127, 0 + x1403.toNat * 1, none⟩)), (81, .slice (some ⟨b2189, q2190, none⟩) ((idx l2103 x1403).length) c2185), (82, .int .i64 x2106), (83, .pointer (some ⟨b2189, q2190 + x2106.toNat * 1, none⟩)), (84, .bool (idx (idx l2103 x1403) x2106)), (85, .bool (!(idx (idx l2103 x1403) x2106))), (86, .pointer (some ⟨b2191, q2192 + x2106.toNat * 1, none⟩))] [(x1403, l2103.length), (x1403, l2103.length), (x2106, (idx l2103 x1403).length), (x2106, (idx l2103 x1403).length)] (by kernel_rfl) (by kernel_rfl) rfl rfl ⟨hg2174.ok, hg2181.ok, (rdS.flook hr2186 rfl g2188).ok, trivial⟩ ⟨g2126, g2126, g2188, g2188, trivial⟩ (by kernel_rfl) (by kernel_rfl) (by kernel_rfl) (by kernel_rfl) hI ?_
                clear hI
                intro _ hI hsame
                refine e_put2 4 _ _ 0 b2127 27 4 l2103.length c2105 l2103 x1403 b2191 q2192 ((idx l2103 x1403).length) c2178 (!(idx (idx l2103 x1403) x2106)) x2106 0 (.bool (!(idx (idx l2103 x1403) x2106))) rfl (by kernel_rfl) (by kernel_rfl) (by kernel_rfl) (by kernel_rfl) hI rfl g2126 (Grp.ok_same (Lies.ok hg2174) hsame) g2188 (by kernel_rfl) (by kernel_rfl) ?_
                clear hI
                intro _ hI
                refine go_inBlock ?_
                refine r_in ?_
                refine o_batch 0 [] [.p, .p, .p] [(71, .int .i64 x2106), (72, .int .i64 (w64 (x2106 + 1))), (12, .int .i64 (w64 (x2106 + 1)))] [] trivial trivial (by kernel_rfl) (by kernel_rfl) (by kernel_rfl) ?_
                refine r_out (by kernel_rfl) ?_
                refine go_is 5 (.slice (some ⟨b2127, 0, none⟩) l2103.length c2105) (.slice (some ⟨b2127, 0, none⟩) ((l2103.set x1403.toNat ((idx l2103 x1403).set x2106.toNat (!(idx (idx l2103 x1403) x2106)))).length) c2105) (by kernel_rfl) (by first | rfl | simp only [List.length_set, List.length_replicate, List.length_nil]) ?_
                replace hI := hI.renum 0 rfl
                exact hin2 _ (Option.some.inj H).symm _ _ ⟨_, (some ⟨b2127, 0, none⟩), c2105, at_slots _ (by kernel_rfl), hI⟩
              · refine go_else' (t := decide (x2106 < ((idx l2103 x1403).length : Int))) (by kernel_rfl) hc2135 ?_
                refine go_exit rfl ?_
                refine r_in ?_
                obtain ⟨cs2195, hk2194, hg2193⟩ := rdS.look (hI.row 0 rfl) (hI.rowlen 0 rfl) g2126
                obtain ⟨A2196, c2197, rfl, hl2199, hr2198⟩ := hk2194
                refine o_batch 0 [(b2127, 0 + x1403.toNat * 1, [.slice A2196 ((idx l2103 x1403).length) c2197])] [.p, .p, .p, .p, .x, .l 0 0] [(87, .slice (some ⟨b2127, 0, none⟩) l2103.length c2105), (88, .int .i64 x1403), (89, .slice (some ⟨b2127, 0, none⟩) l2103.length c2105), (90, .int .i64 x1403), (91, .pointer (some ⟨b2127, 0 + x1403.toNat * 1, none⟩)), (92, .slice A2196 ((idx l2103 x1403).length) c2197)] [(x1403, l2103.length)] ⟨hg2193.ok, trivial⟩ ⟨g2126, trivial⟩ (by kernel_rfl) (by kernel_rfl) (by kernel_rfl) ?_
                replace hI := hI.takeS (kt := tBool) 0 rfl g2126 (Lies.ok hg2193)
                refine o_eff 6 _ rfl (by kernel_rfl) ?_
                refine e_parts 27 4 2 _ _ _ #[.bool true, .bool true] [.bool true, .bool true] rfl rfl rfl rfl (by kernel_rfl) (by kernel_rfl) (by kernel_rfl) (by kernel_rfl) hI ?_
                clear hI
                intro b2200 _ hI
                replace H := must_some H
                obtain ⟨g2201, H⟩ := H
                refine o_eff 7 _ rfl (by kernel_rfl) ?_
                refine e_append tBool 27 0 4 _ _ _ _ A2196 ((idx l2103 x1403).length) c2197 (idx l2103 x1403) ([true, true] : List Bool) b2200 0 2 2 [.bool true, .bool true] 0 [] [1, 2, 3, 4] [] [.row (tOpt (tSlice 4 tBool)) 27 (some ⟨b2127, 0, none⟩) l2103.length c2105 ((l2103.map Sum.inl).set x1403.toNat (Sum.inr [.slice A2196 ((idx l2103 x1403).length) c2197])), .row (tSlice 4 tBool) 27 A25 y23.1.length c26 y23.1, .row (tSlice 4 tBool) 27 A33 y31.1.length c34 y31.1, .blk b2200 4 [.bool true, .bool true]] rfl (by kernel_rfl) (by kernel_rfl) rfl rfl rfl rfl rfl (by kernel_rfl) hI (by decide) rfl rfl rfl (hI.grp 4 rfl) g2201 (mks_cons (mk_flat (k := tBool) true [.bool true] rfl) (mks_cons (mk_flat (k := tBool) true [.bool true] rfl) mks_nil)) ?_
                clear hI
                intro A2202 c2203 _ hI
                replace hI := hI.pick (L' := [.row tBool 4 A2202 (((idx l2103 x1403) ++ ([true, true] : List Bool)).length) c2203 ((idx l2103 x1403) ++ ([true, true] : List Bool)), .row (tOpt (tSlice 4 tBool)) 27 (some ⟨b2127, 0, none⟩) l2103.length c2105 ((l2103.map Sum.inl).set x1403.toNat (Sum.inr [.slice A2196 ((idx l2103 x1403).length) c2197])), .row (tSlice 4 tBool) 27 A25 y23.1.length c26 y23.1, .row (tSlice 4 tBool) 27 A33 y31.1.length c34 y31.1]) [0, 1, 2, 3] (by decide) rfl
                refine o_batch 8 [] [.x] [(95, .pointer (some ⟨b2127, 0 + x1403.toNat * 1, none⟩))] [(x1403, l2103.length)] trivial ⟨g2126, trivial⟩ (by kernel_rfl) (by kernel_rfl) (by kernel_rfl) ?_
                refine o_eff 9 _ rfl (by kernel_rfl) ?_
                refine e_putown (kt := tOpt (tSlice 4 tBool)) 27 _ _ 1 [0] [2, 3] b2127 27 l2103.length c2105 ((l2103.map Sum.inl).set x1403.toNat (Sum.inr [.slice A2196 ((idx l2103 x1403).length) c2197])) (Sum.inl ((idx l2103 x1403) ++ ([true, true] : List Bool))) x1403 (.slice A2202 (((idx l2103 x1403) ++ ([true, true] : List Bool)).length) c2203) [.row tBool 4 A2202 (((idx l2103 x1403) ++ ([true, true] : List Bool)).length) c2203 ((idx l2103 x1403) ++ ([true, true] : List Bool))] [.row (tSlice 4 tBool) 27 A25 y23.1.length c26 y23.1, .row (tSlice 4 tBool) 27 A33 y31.1.length c34 y31.1] rfl (by kernel_rfl) (by kernel_rfl) (by kernel_rfl) (by kernel_rfl) hI (by decide) rfl g2126 mk_row ?_
                clear hI
                intro _ hI
                replace hI := hI.optback (k := (tSlice 4 tBool)) 0 (l2103.set x1403.toNat ((idx l2103 x1403) ++ ([true, true] : List Bool))) rfl set_inl
                refine r_out (by kernel_rfl) ?_
                refine go_inBlock ?_
                refine r_in ?_
                refine o_batch 0 [] [.p, .p, .p] [(52, .int .i64 x1403), (53, .int .i64 (w64 (x1403 + 1))), (11, .int .i64 (w64 (x1403 + 1)))] [] trivial trivial (by kernel_rfl) (by kernel_rfl) (by kernel_rfl) ?_
                refine r_out (by kernel_rfl) ?_
                refine go_is 5 (.slice (some ⟨b2127, 0, none⟩) l2103.length c2105) (.slice (some ⟨b2127, 0, none⟩) ((l2103.set x1403.toNat ((idx l2103 x1403) ++ ([true, true] : List Bool))).length) c2105) (by kernel_rfl) (by first | rfl | simp only [List.length_set, List.length_replicate, List.length_nil]) ?_
                replace hI := hI.renum 0 rfl
                replace H := out_some H
                obtain ⟨_, H, he2⟩ := H
                have he := (hout2 _ he2).symm
                subst he
                exact hin1 _ (Option.some.inj H).symm _ _ ⟨_, (some ⟨b2127, 0, none⟩), c2105, at_slots _ (by kernel_rfl), hI⟩
          · replace H := must_some H
            obtain ⟨g2204, H⟩ := H
            replace H := must_some H
            obtain ⟨g2213, H⟩ := H
            replace H := bind_some H
            obtain ⟨y2222, hy2223, H⟩ := H
            refine go_held (fun w => Inv M w [.row (tSlice 4 tBool) 27 A1401 l1400.length c1402 l1400, .row (tSlice 4 tBool) 27 A25 y23.1.length c26 y23.1, .row (tSlice 4 tBool) 27 A33 y31.1.length c34 y31.1]) (by kernel_rfl) ?_
            replace hI := hI.drew'
            obtain ⟨b2224, rfl⟩ := hI.rowAt 0 rfl g2204
            obtain ⟨cs2227, hk2226, hg2225⟩ := rdS.look (hI.row 0 rfl) (hI.rowlen 0 rfl) g2204
            obtain ⟨A2228, c2229, rfl, hl2231, hr2230⟩ := hk2226
            obtain ⟨b2232, rfl⟩ := hI.rowAt 2 rfl g2213
            obtain ⟨cs2235, hk2234, hg2233⟩ := rdS.look (hI.row 2 rfl) (hI.rowlen 2 rfl) g2213
            obtain ⟨A2236, c2237, rfl, hl2239, hr2238⟩ := hk2234
            refine held_batch (n := 4) [] [(0, .p), (1, .p), (2, .x), (4, .p), (5, .p), (6, .x)] [(54, .slice (some ⟨b2224, 0, none⟩) l1400.length c1402), (55, .int .i64 x1403), (56, .pointer (some ⟨b2224, 0 + x1403.toNat * 1, none⟩)), (58, .slice (some ⟨b2232, 0, none⟩) y31.1.length c34), (59, .int .i64 x1403), (60, .pointer (some ⟨b2232, 0 + x1403.toNat * 1, none⟩))] [(x1403, l1400.length), (x1403, y31.1.length)] [true, true, true, false, true, true, true, false, false, false] (by kernel_rfl) (fun w hS => trivial) hI ⟨g2204, g2213, trivial⟩ (by kernel_rfl) (by kernel_rfl) (by kernel_rfl) ?_
            refine held_each (n := 3) [3, 7] (by simp) (by kernel_rfl) ⟨⟨_, rfl, by kernel_rfl, ?_⟩, ⟨_, rfl, by kernel_rfl, ?_⟩, trivial⟩
            · refine (e_read (ops := #[]) [(b2224, 0 + x1403.toNat * 1, [.slice A2228 ((idx l1400 x1403).length) c2229])] (.l 0 0) (.slice A2228 ((idx l1400 x1403).length) c2229) [] ⟨hg2225.ok, trivial⟩ trivial (by kernel_rfl) (by kernel_rfl) (by kernel_rfl) ⟨hI, ?_⟩)
              refine held_one (n := 2) 7 _ rfl (by kernel_rfl) (by kernel_rfl) (e_read (ops := #[]) [(b2232, 0 + x1403.toNat * 1, [.slice A2236 ((idx y31.1 x1403).length) c2237])] (.l 0 0) (.slice A2236 ((idx y31.1 x1403).length) c2237) [] ⟨hg2233.ok, trivial⟩ trivial (by kernel_rfl) (by kernel_rfl) (by kernel_rfl) ⟨hI, ?_⟩)
              refine held_one (n := 1) 8 _ rfl (by kernel_rfl) (by kernel_rfl) (e_callf _ _ _ 16 #[] #[] #[.slice A2228 ((idx l1400 x1403).length) c2229, .slice A2236 ((idx y31.1 x1403).length) c2237] #[.slice A2228 ((idx l1400 x1403).length) c2229, .slice A2236 ((idx y31.1 x1403).length) c2237] rfl (by kernel_rfl) (by kernel_rfl) (by kernel_rfl) (enter16 _) (assizeref06zSameBools_calls A2228 c2229 (idx l1400 x1403) A2236 c2237 (idx y31.1 x1403) (memOf _) _ (Inv.start _) hr2230 hl2231 hr2238 hl2239 _ hy2223) ?_)
              rintro _ _ ⟨rfl, hI'⟩
              replace hI := hI.call0 hI'
              clear hI'
              refine ⟨_, rfl, ?_⟩
              refine ⟨hI, ?_⟩
              refine held_batch (n := 0) [] [(9, .p)] [(63, .bool (!y2222))] [] [true, true, true, true, true, true, true, true, true, true] (by kernel_rfl) (fun w hS => trivial) hI trivial (by kernel_rfl) (by kernel_rfl) (by kernel_rfl) ?_
              refine held_done (by kernel_rfl) ?_
              exact hJ1801 (!y2222) _ _ ⟨_, at_slots _ (by kernel_rfl), hI⟩ H
            · refine (e_read (ops := #[]) [(b2232, 0 + x1403.toNat * 1, [.slice A2236 ((idx y31.1 x1403).length) c2237])] (.l 0 0) (.slice A2236 ((idx y31.1 x1403).length) c2237) [] ⟨hg2233.ok, trivial⟩ trivial (by kernel_rfl) (by kernel_rfl) (by kernel_rfl) ⟨hI, ?_⟩)
              refine held_one (n := 2) 3 _ rfl (by kernel_rfl) (by kernel_rfl) (e_read (ops := #[]) [(b2224, 0 + x1403.toNat * 1, [.slice A2228 ((idx l1400 x1403).length) c2229])] (.l 0 0) (.slice A2228 ((idx l1400 x1403).length) c2229) [] ⟨hg2225.ok, trivial⟩ trivial (by kernel_rfl) (by kernel_rfl) (by kernel_rfl) ⟨hI, ?_⟩)
              refine held_one (n := 1) 8 _ rfl (by kernel_rfl) (by kernel_rfl) (e_callf _ _ _ 16 #[] #[] #[.slice A2228 ((idx l1400 x1403).length) c2229, .slice A2236 ((idx y31.1 x1403).length) c2237] #[.slice A2228 ((idx l1400 x1403).length) c2229, .slice A2236 ((idx y31.1 x1403).length) c2237] rfl (by kernel_rfl) (by kernel_rfl) (by kernel_rfl) (enter16 _) (assizeref06zSameBools_calls A2228 c2229 (idx l1400 x1403) A2236 c2237 (idx y31.1 x1403) (memOf _) _ (Inv.start _) hr2230 hl2231 hr2238 hl2239 _ hy2223) ?_)
              rintro _ _ ⟨rfl, hI'⟩
              replace hI := hI.call0 hI'
              clear hI'
              refine ⟨_, rfl, ?_⟩
              refine ⟨hI, ?_⟩
              refine held_batch (n := 0) [] [(9, .p)] [(63, .bool (!y2222))] [] [true, true, true, true, true, true, true, true, true, true] (by kernel_rfl) (fun w hS => trivial) hI trivial (by kernel_rfl) (by kernel_rfl) (by kernel_rfl) ?_
              refine held_done (by kernel_rfl) ?_
              exact hJ1801 (!y2222) _ _ ⟨_, at_slots _ (by kernel_rfl), hI⟩ H
        · refine go_else' (t := decide (x1403 < (l1400.length : Int))) (by kernel_rfl) hc1405 ?_
          refine go_exit rfl ?_
          refine go_seq ?_
          refine r_in ?_
          refine o_batch 0 [] [.p, .p] [(96, .slice A25 y23.1.length c26), (97, .slice A33 y31.1.length c34)] [] trivial trivial (by kernel_rfl) (by kernel_rfl) (by kernel_rfl) ?_
          replace H := bind_some H
          obtain ⟨y2242, hy2243, H⟩ := H
          refine o_eff 2 _ rfl (by kernel_rfl) ?_
          refine e_callf _ _ _ 17 #[] #[] #[.slice A25 y23.1.length c26, .slice A33 y31.1.length c34] #[.slice A25 y23.1.length c26, .slice A33 y31.1.length c34] rfl (by kernel_rfl) (by kernel_rfl) (by kernel_rfl) (enter17 _) (assizelaw06zsameAll_calls A25 c26 y23.1 A33 c34 y31.1 (memOf _) _ (Inv.start _) (hI.row 1 rfl) (hI.rowle 1 rfl) (hI.row 2 rfl) (hI.rowle 2 rfl) _ hy2243) ?_
          rintro _ _ ⟨rfl, hI'⟩
          replace hI := hI.call0 hI'
          clear hI'
          refine ⟨_, rfl, ?_⟩
          refine o_batch 3 [] [.p] [(4, .bool y2242)] [] trivial trivial (by kernel_rfl) (by kernel_rfl) (by kernel_rfl) ?_
          refine r_out (by kernel_rfl) ?_
          replace H := out_some H
          obtain ⟨_, H, he1⟩ := H
          have he := (hout1 _ he1).symm
          subst he
          replace H := Option.some.inj H
          subst H
          exact go_return (.bool y2242) Tryd.func5 (by kernel_rfl) ⟨rfl, hI.pick [] (by decide) rfl⟩
    · refine r_in ?_
      replace H := cond_some H
      rcases H with ⟨hc2244, H⟩ | ⟨hc2244, H⟩
      · refine o_batch 0 [] [.p, .p, .p, .c true, .p, .p, .p, .p, .p, .p, .p, .p, .p, .p, .p] [(33, .int .i64 y15.2), (34, .int .i64 y31.2), (35, .bool (y15.2 != y31.2)), (36, .bool true), (37, undef), (38, undef), (39, undef), (40, .bool true), (41, .bool true), (42, undef), (43, undef), (44, undef), (45, undef), (46, undef), (47, .bool true)] [((bif (y15.2 != y31.2) == true then 0 else -1), 1)] trivial ⟨(bndEq hc2244), trivial⟩ (by kernel_rfl) (by kernel_rfl) (by kernel_rfl) ?_
        refine r_out (by kernel_rfl) ?_
        exact hJ42 true _ _ ⟨_, at_slots _ (by kernel_rfl), hI.pick [1, 2, 3] (by decide) rfl⟩ H
      · replace H := cond_some H
        rcases H with ⟨hc2245, H⟩ | ⟨hc2245, H⟩
        · refine o_batch 0 [] [.p, .p, .p, .c false, .p, .p, .p, .p, .c true, .p, .p, .p, .p, .p, .p] [(33, .int .i64 y15.2), (34, .int .i64 y31.2), (35, .bool (y15.2 != y31.2)), (36, .bool false), (37, .int .i64 y23.2), (38, .int .i64 y31.2), (39, .bool (y23.2 != y31.2)), (40, .bool (y23.2 != y31.2)), (41, .bool true), (42, undef), (43, undef), (44, undef), (45, undef), (46, undef), (47, .bool true)] [((bif (y15.2 != y31.2) == false then 0 else -1), 1), ((bif (y23.2 != y31.2) == true then 0 else -1), 1)] trivial ⟨(bndEq hc2244), (bndEq hc2245), trivial⟩ (by kernel_rfl) (by kernel_rfl) (by kernel_rfl) ?_
          refine r_out (by kernel_rfl) ?_
          exact hJ42 true _ _ ⟨_, at_slots _ (by kernel_rfl), hI.pick [1, 2, 3] (by decide) rfl⟩ H
        · refine o_batch 0 [] [.p, .p, .p, .c false, .p, .p, .p, .p, .c false, .p, .p, .p, .p, .p, .p] [(33, .int .i64 y15.2), (34, .int .i64 y31.2), (35, .bool (y15.2 != y31.2)), (36, .bool false), (37, .int .i64 y23.2), (38, .int .i64 y31.2), (39, .bool (y23.2 != y31.2)), (40, .bool (y23.2 != y31.2)), (41, .bool false), (42, .slice A17 y15.1.length c18), (43, .int .i64 (y15.1.length : Int)), (44, .slice A33 y31.1.length c34), (45, .int .i64 (y31.1.length : Int)), (46, .bool ((y15.1.length : Int) != (y31.1.length : Int))), (47, .bool ((y15.1.length : Int) != (y31.1.length : Int)))] [((bif (y15.2 != y31.2) == false then 0 else -1), 1), ((bif (y23.2 != y31.2) == false then 0 else -1), 1)] trivial ⟨(bndEq hc2244), (bndEq hc2245), trivial⟩ (by kernel_rfl) (by kernel_rfl) (by kernel_rfl) ?_
          refine r_out (by kernel_rfl) ?_
          exact hJ42 ((y15.1.length : Int) != (y31.1.length : Int)) _ _ ⟨_, at_slots _ (by kernel_rfl), hI.pick [1, 2, 3] (by decide) rfl⟩ H

end Go.Proofs.YtncapkloanfmnaaDoorT
