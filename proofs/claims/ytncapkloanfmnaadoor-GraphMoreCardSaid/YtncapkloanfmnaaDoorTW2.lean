/- The walks, part 2: each call computes its plain function. -/
import Derived.Test.YtncapkloanfmnaaDoorTW1
import Derived.Shelf.Spec.TrailingZeros
import Derived.Test.YtncapkloanfmnaaDoorProg
namespace Go.Proofs.YtncapkloanfmnaaDoorT
open Go Go.Proofs Go.Shelf Go.Proofs.YtncapkloanfmnaaDoorE
set_option linter.unusedVariables false
set_option linter.unusedSimpArgs false
set_option maxHeartbeats 0
set_option maxRecDepth 4096
/-! ### assizelaw06.alive -/
theorem enter10 (a : Array Value) : Sem.pureRun Tryd.prog (callFunc 10 a) = some (.enter 10 a) := by kernel_rfl
theorem assizelaw06zalive_calls  (M : Mem) (w : World) (hI : Inv M w []) (hT : TabM M.blk) (r : Bool) (H : assizelaw06zalive = some r) :
    Calls Tryd.prog 10 #[] w fun e w' => e = .returned (.bool r) ∧ Inv M w' [] := by
  refine calls_go (updL (fun _ => undef) []) Tryd.func10 rfl (by kernel_rfl) ?_
  intro cs
  unfold assizelaw06zalive at H
  refine go_seq ?_
  refine r_in ?_
  refine o_batch 0 [] [.p] [(0, .bool false)] [] trivial trivial (by kernel_rfl) (by kernel_rfl) (by kernel_rfl) ?_
  refine r_out (by kernel_rfl) ?_
  refine go_seq ?_
  refine r_in ?_
  refine o_batch 0 [] [.p, .p] [(7, .agg #[.int .i64 2, .int .i64 1, .int .i64 8, .int .i64 0]), (8, .agg #[.int .i64 1, .int .i64 0, .int .i64 4, .int .i64 0])] [] trivial trivial (by kernel_rfl) (by kernel_rfl) (by kernel_rfl) ?_
  refine o_eff 2 _ rfl (by kernel_rfl) ?_
  refine e_parts 22 40 2 _ _ _ #[.int .i64 2, .int .i64 1, .int .i64 8, .int .i64 0, .int .i64 1, .int .i64 0, .int .i64 4, .int .i64 0] [.int .i64 2, .int .i64 1, .int .i64 8, .int .i64 0, .int .i64 1, .int .i64 0, .int .i64 4, .int .i64 0] rfl rfl rfl rfl (by kernel_rfl) (by kernel_rfl) (by kernel_rfl) (by kernel_rfl) hI ?_
  clear hI
  intro b3 _ hI
  replace hI := hI.asrow (k := kEdge) (xs := ([(⟨2, 1, 8, 0⟩ : Edge), (⟨1, 0, 4, 0⟩ : Edge)] : List Edge)) (cs := [.int .i64 2, .int .i64 1, .int .i64 8, .int .i64 0, .int .i64 1, .int .i64 0, .int .i64 4, .int .i64 0]) (R := []) (L' := []) 2 0 [] [] (by decide) rfl (mks_cons (mk_flat (k := kEdge) (⟨2, 1, 8, 0⟩ : Edge) [.int .i64 2, .int .i64 1, .int .i64 8, .int .i64 0] rfl) (mks_cons (mk_flat (k := kEdge) (⟨1, 0, 4, 0⟩ : Edge) [.int .i64 1, .int .i64 0, .int .i64 4, .int .i64 0] rfl) mks_nil)) rfl rfl (by kernel_rfl)
  refine o_batch 3 [] [.p] [(10, .agg #[.int .i64 3, .slice (some ⟨b3, 0, none⟩) 2 2])] [] trivial trivial (by kernel_rfl) (by kernel_rfl) (by kernel_rfl) ?_
  refine o_eff 4 _ rfl (by kernel_rfl) ?_
  refine e_alloc 24 (.agg #[.int .i64 0, .slice none 0 0]) [.int .i64 0, .slice none 0 0] rfl (by kernel_rfl) rfl hI ?_
  clear hI
  intro b4 _ hI
  refine o_eff 5 _ rfl (by kernel_rfl) ?_
  refine e_store 24 _ _ 1 b4 24 [.int .i64 0, .slice none 0 0] [.int .i64 3, .slice (some ⟨b3, 0, none⟩) 2 2] 0 (.agg #[.int .i64 3, .slice (some ⟨b3, 0, none⟩) 2 2]) rfl (by kernel_rfl) (by kernel_rfl) (by kernel_rfl) (by kernel_rfl) hI rfl (by kernel_rfl) (by kernel_rfl) ?_
  clear hI
  intro _ hI
  refine r_out (by kernel_rfl) ?_
  refine go_seq ?_
  refine r_in ?_
  refine o_batch 0 [(b4, 0, [.int .i64 3, .slice (some ⟨b3, 0, none⟩) 2 2])] [.l 0 0] [(12, .agg #[.int .i64 3, .slice (some ⟨b3, 0, none⟩) 2 2])] [] ⟨(hI.grp 1 rfl), trivial⟩ trivial (by kernel_rfl) (by kernel_rfl) (by kernel_rfl) ?_
  replace H := bind_some H
  obtain ⟨y9, hy10, H⟩ := H
  refine o_is 9 (.slice (some ⟨b3, 0, none⟩) 2 2) (.slice (some ⟨b3, 0, none⟩) (([(⟨2, 1, 8, 0⟩ : Edge), (⟨1, 0, 4, 0⟩ : Edge)] : List Edge).length) 2) (by kernel_rfl) (by first | rfl | simp only [List.length_set, List.length_replicate, List.length_nil]) ?_
  refine o_is 10 (.agg #[.int .i64 3, .slice (some ⟨b3, 0, none⟩) 2 2]) (.agg #[.int .i64 3, .slice (some ⟨b3, 0, none⟩) (([(⟨2, 1, 8, 0⟩ : Edge), (⟨1, 0, 4, 0⟩ : Edge)] : List Edge).length) 2]) (by kernel_rfl) (by first | rfl | simp only [List.length_set, List.length_replicate, List.length_nil]) ?_
  refine o_is 12 (.agg #[.int .i64 3, .slice (some ⟨b3, 0, none⟩) 2 2]) (.agg #[.int .i64 3, .slice (some ⟨b3, 0, none⟩) (([(⟨2, 1, 8, 0⟩ : Edge), (⟨1, 0, 4, 0⟩ : Edge)] : List Edge).length) 2]) (by kernel_rfl) (by first | rfl | simp only [List.length_set, List.length_replicate, List.length_nil]) ?_
  refine o_is 12 (.agg #[.int .i64 3, .slice (some ⟨b3, 0, none⟩) 2 2]) (.agg #[.int .i64 3, .slice (some ⟨b3, 0, none⟩) (([(⟨2, 1, 8, 0⟩ : Edge), (⟨1, 0, 4, 0⟩ : Edge)] : List Edge).length) 2]) (by kernel_rfl) (by first | rfl | simp only [List.length_set, List.length_replicate, List.length_nil]) ?_
  replace hI := hI.renum 0 rfl
  replace hI := hI.recell 1 [.int .i64 3, .slice (some ⟨b3, 0, none⟩) (([(⟨2, 1, 8, 0⟩ : Edge), (⟨1, 0, 4, 0⟩ : Edge)] : List Edge).length) 2] (by first | rfl | simp only [List.length_set, List.length_replicate, List.length_nil]) rfl
  refine o_eff 1 _ rfl (by kernel_rfl) ?_
  refine e_callf _ _ _ 21 #[] #[] #[.agg #[.int .i64 3, .slice (some ⟨b3, 0, none⟩) (([(⟨2, 1, 8, 0⟩ : Edge), (⟨1, 0, 4, 0⟩ : Edge)] : List Edge).length) 2], .int .i64 12] #[.agg #[.int .i64 3, .slice (some ⟨b3, 0, none⟩) (([(⟨2, 1, 8, 0⟩ : Edge), (⟨1, 0, 4, 0⟩ : Edge)] : List Edge).length) 2], .int .i64 12] rfl (by kernel_rfl) (by kernel_rfl) (by kernel_rfl) (enter21 _) (graph_Order_calls (⟨3, ([(⟨2, 1, 8, 0⟩ : Edge), (⟨1, 0, 4, 0⟩ : Edge)] : List Edge)⟩ : Graph) (some ⟨b3, 0, none⟩) 2 12 (memOf _) _ (Inv.start _) (hI.rd hT) (hI.row 0 rfl) (hI.rowle 0 rfl) _ hy10) ?_
  rintro _ _ ⟨A11, c12, rfl, hI'⟩
  replace hI := hI.call0 hI'
  clear hI'
  refine ⟨_, rfl, ?_⟩
  refine o_batch 2 [] [.p, .p, .p, .p, .p, .p, .p] [(11, .tuple #[.slice A11 y9.1.length c12, .bool y9.2.1, .int .i64 y9.2.2]), (14, .slice A11 y9.1.length c12), (15, .bool y9.2.1), (16, .int .i64 y9.2.2), (2, .slice A11 y9.1.length c12), (3, .bool y9.2.1), (4, .int .i64 y9.2.2)] [] trivial trivial (by kernel_rfl) (by kernel_rfl) (by kernel_rfl) ?_
  refine r_out (by kernel_rfl) ?_
  refine go_seq ?_
  refine r_in ?_
  refine o_batch 0 [(b4, 0, [.int .i64 3, .slice (some ⟨b3, 0, none⟩) (([(⟨2, 1, 8, 0⟩ : Edge), (⟨1, 0, 4, 0⟩ : Edge)] : List Edge).length) 2])] [.l 0 0] [(18, .agg #[.int .i64 3, .slice (some ⟨b3, 0, none⟩) (([(⟨2, 1, 8, 0⟩ : Edge), (⟨1, 0, 4, 0⟩ : Edge)] : List Edge).length) 2])] [] ⟨(hI.grp 1 rfl), trivial⟩ trivial (by kernel_rfl) (by kernel_rfl) (by kernel_rfl) ?_
  replace H := bind_some H
  obtain ⟨y17, hy18, H⟩ := H
  refine o_eff 1 _ rfl (by kernel_rfl) ?_
  refine e_callf _ _ _ 12 #[] #[] #[.agg #[.int .i64 3, .slice (some ⟨b3, 0, none⟩) (([(⟨2, 1, 8, 0⟩ : Edge), (⟨1, 0, 4, 0⟩ : Edge)] : List Edge).length) 2], .int .i64 8, .int .i64 2] #[.agg #[.int .i64 3, .slice (some ⟨b3, 0, none⟩) (([(⟨2, 1, 8, 0⟩ : Edge), (⟨1, 0, 4, 0⟩ : Edge)] : List Edge).length) 2], .int .i64 8, .int .i64 2] rfl (by kernel_rfl) (by kernel_rfl) (by kernel_rfl) (enter12 _) (graph_Reach_calls (⟨3, ([(⟨2, 1, 8, 0⟩ : Edge), (⟨1, 0, 4, 0⟩ : Edge)] : List Edge)⟩ : Graph) (some ⟨b3, 0, none⟩) 2 8 2 (memOf _) _ (Inv.start _) (hI.rd hT) (hI.row 0 rfl) (hI.rowle 0 rfl) _ hy18) ?_
  rintro _ _ ⟨A19, c20, rfl, hI'⟩
  replace hI := hI.call0 hI'
  clear hI'
  refine ⟨_, rfl, ?_⟩
  refine o_batch 2 [] [.p, .p, .p, .p, .p] [(17, .tuple #[.slice A19 y17.1.length c20, .int .i64 y17.2]), (20, .slice A19 y17.1.length c20), (21, .int .i64 y17.2), (5, .slice A19 y17.1.length c20), (6, .int .i64 y17.2)] [] trivial trivial (by kernel_rfl) (by kernel_rfl) (by kernel_rfl) ?_
  refine r_out (by kernel_rfl) ?_
  refine go_seq ?_
  refine r_in ?_
  replace H := cond_some H
  rcases H with ⟨hc38, H⟩ | ⟨hc38, H⟩
  · replace H := cond_some H
    rcases H with ⟨hc39, H⟩ | ⟨hc39, H⟩
    · replace H := cond_some H
      rcases H with ⟨hc40, H⟩ | ⟨hc40, H⟩
      · replace H := must_some H
        obtain ⟨g41, H⟩ := H
        obtain ⟨b42, rfl⟩ := hI.rowAt 2 rfl g41
        replace H := cond_some H
        rcases H with ⟨hc43, H⟩ | ⟨hc43, H⟩
        · replace H := must_some H
          obtain ⟨g44, H⟩ := H
          replace H := cond_some H
          rcases H with ⟨hc45, H⟩ | ⟨hc45, H⟩
          · replace H := cond_some H
            rcases H with ⟨hc46, H⟩ | ⟨hc46, H⟩
            · replace H := cond_some H
              rcases H with ⟨hc47, H⟩ | ⟨hc47, H⟩
              · replace H := must_some H
                obtain ⟨g48, H⟩ := H
                obtain ⟨b49, rfl⟩ := hI.rowAt 3 rfl g48
                replace H := cond_some H
                rcases H with ⟨hc50, H⟩ | ⟨hc50, H⟩
                · replace H := must_some H
                  obtain ⟨g51, H⟩ := H
                  replace H := cond_some H
                  rcases H with ⟨hc52, H⟩ | ⟨hc52, H⟩
                  · refine o_batch 0 [(b42, 0 + (0 : Int).toNat * 1, [.int .i64 (idx y9.1 (0 : Int))]), (b42, 0 + (2 : Int).toNat * 1, [.int .i64 (idx y9.1 (2 : Int))]), (b49, 0 + (1 : Int).toNat * 1, [.bool (idx y17.1 (1 : Int))]), (b49, 0 + (0 : Int).toNat * 1, [.bool (idx y17.1 (0 : Int))])] [.p, .p, .c true, .p, .p, .c true, .p, .p, .p, .p, .c true, .p, .x, .l 0 0, .p, .p, .c true, .p, .x, .l 1 0, .p, .p, .c true, .p, .p, .p, .c true, .p, .p, .p, .p, .c true, .p, .x, .l 2 0, .p, .c true, .p, .x, .l 3 0, .p, .p, .c true, .p] [(22, .int .i64 y9.2.2), (23, .bool (y9.2.2 == 0)), (24, .bool true), (25, .bool y9.2.1), (26, .bool y9.2.1), (27, .bool true), (28, .slice (some ⟨b42, 0, none⟩) y9.1.length c12), (29, .int .i64 (y9.1.length : Int)), (30, .bool ((y9.1.length : Int) == 3)), (31, .bool ((y9.1.length : Int) == 3)), (32, .bool true), (33, .slice (some ⟨b42, 0, none⟩) y9.1.length c12), (34, .pointer (some ⟨b42, 0 + (0 : Int).toNat * 1, none⟩)), (35, .int .i64 (idx y9.1 (0 : Int))), (36, .bool (idx y9.1 (0 : Int) == 2)), (37, .bool (idx y9.1 (0 : Int) == 2)), (38, .bool true), (39, .slice (some ⟨b42, 0, none⟩) y9.1.length c12), (40, .pointer (some ⟨b42, 0 + (2 : Int).toNat * 1, none⟩)), (41, .int .i64 (idx y9.1 (2 : Int))), (42, .bool (idx y9.1 (2 : Int) == 0)), (43, .bool (idx y9.1 (2 : Int) == 0)), (44, .bool true), (45, .int .i64 y17.2), (46, .bool (y17.2 == 0)), (47, .bool (y17.2 == 0)), (48, .bool true), (49, .slice (some ⟨b49, 0, none⟩) y17.1.length c20), (50, .int .i64 (y17.1.length : Int)), (51, .bool ((y17.1.length : Int) == 3)), (52, .bool ((y17.1.length : Int) == 3)), (53, .bool true), (54, .slice (some ⟨b49, 0, none⟩) y17.1.length c20), (55, .pointer (some ⟨b49, 0 + (1 : Int).toNat * 1, none⟩)), (56, .bool (idx y17.1 (1 : Int))), (57, .bool (idx y17.1 (1 : Int))), (58, .bool true), (59, .slice (some ⟨b49, 0, none⟩) y17.1.length c20), (60, .pointer (some ⟨b49, 0 + (0 : Int).toNat * 1, none⟩)), (61, .bool (idx y17.1 (0 : Int))), (62, .bool (!(idx y17.1 (0 : Int)))), (63, .bool (!(idx y17.1 (0 : Int)))), (64, .bool true), (65, .agg #[.int .i64 (-1), .slice none 0 0])] [((bif (y9.2.2 == 0) == true then 0 else -1), 1), ((bif y9.2.1 == true then 0 else -1), 1), ((bif ((y9.1.length : Int) == 3) == true then 0 else -1), 1), (0, y9.1.length), ((bif (idx y9.1 (0 : Int) == 2) == true then 0 else -1), 1), (2, y9.1.length), ((bif (idx y9.1 (2 : Int) == 0) == true then 0 else -1), 1), ((bif (y17.2 == 0) == true then 0 else -1), 1), ((bif ((y17.1.length : Int) == 3) == true then 0 else -1), 1), (1, y17.1.length), ((bif (idx y17.1 (1 : Int)) == true then 0 else -1), 1), (0, y17.1.length), ((bif (!(idx y17.1 (0 : Int))) == true then 0 else -1), 1)] ⟨(rdS.flook (hI.row 2 rfl) (hI.rowlen 2 rfl) g41).ok, (rdS.flook (hI.row 2 rfl) (hI.rowlen 2 rfl) g44).ok, (rdS.flook (hI.row 3 rfl) (hI.rowlen 3 rfl) g48).ok, (rdS.flook (hI.row 3 rfl) (hI.rowlen 3 rfl) g51).ok, trivial⟩ ⟨(bndEq hc38), (bndEq hc39), (bndEq hc40), g41, (bndEq hc43), g44, (bndEq hc45), (bndEq hc46), (bndEq hc47), g48, (bndEq hc50), g51, (bndEq hc52), trivial⟩ (by kernel_rfl) (by kernel_rfl) (by kernel_rfl) ?_
                    replace H := bind_some H
                    obtain ⟨y53, hy54, H⟩ := H
                    refine o_eff 44 _ rfl (by kernel_rfl) ?_
                    refine e_callf _ _ _ 18 #[] #[] #[.agg #[.int .i64 (-1), .slice none 0 0]] #[.agg #[.int .i64 (-1), .slice none 0 0]] rfl (by kernel_rfl) (by kernel_rfl) (by kernel_rfl) (enter18 _) (graph_Check_calls (⟨(-1), ([] : List Edge)⟩ : Graph) none 0 (memOf _) _ (Inv.start _) (.inl rfl) (Nat.le_refl _) _ hy54) ?_
                    rintro _ _ ⟨rfl, hI'⟩
                    replace hI := hI.call0 hI'
                    clear hI'
                    refine ⟨_, rfl, ?_⟩
                    refine o_batch 45 [] [.p, .p, .p] [(67, .bool (y53 == 60)), (68, .bool (y53 == 60)), (0, .bool (y53 == 60))] [] trivial trivial (by kernel_rfl) (by kernel_rfl) (by kernel_rfl) ?_
                    refine r_out (by kernel_rfl) ?_
                    replace H := Option.some.inj H
                    subst H
                    exact go_return (.bool (y53 == 60)) Tryd.func10 (by kernel_rfl) ⟨rfl, hI.pick [] (by decide) rfl⟩
                  · refine o_batch 0 [(b42, 0 + (0 : Int).toNat * 1, [.int .i64 (idx y9.1 (0 : Int))]), (b42, 0 + (2 : Int).toNat * 1, [.int .i64 (idx y9.1 (2 : Int))]), (b49, 0 + (1 : Int).toNat * 1, [.bool (idx y17.1 (1 : Int))]), (b49, 0 + (0 : Int).toNat * 1, [.bool (idx y17.1 (0 : Int))])] [.p, .p, .c true, .p, .p, .c true, .p, .p, .p, .p, .c true, .p, .x, .l 0 0, .p, .p, .c true, .p, .x, .l 1 0, .p, .p, .c true, .p, .p, .p, .c true, .p, .p, .p, .p, .c true, .p, .x, .l 2 0, .p, .c true, .p, .x, .l 3 0, .p, .p, .c false, .p, .p, .p, .p, .p] [(22, .int .i64 y9.2.2), (23, .bool (y9.2.2 == 0)), (24, .bool true), (25, .bool y9.2.1), (26, .bool y9.2.1), (27, .bool true), (28, .slice (some ⟨b42, 0, none⟩) y9.1.length c12), (29, .int .i64 (y9.1.length : Int)), (30, .bool ((y9.1.length : Int) == 3)), (31, .bool ((y9.1.length : Int) == 3)), (32, .bool true), (33, .slice (some ⟨b42, 0, none⟩) y9.1.length c12), (34, .pointer (some ⟨b42, 0 + (0 : Int).toNat * 1, none⟩)), (35, .int .i64 (idx y9.1 (0 : Int))), (36, .bool (idx y9.1 (0 : Int) == 2)), (37, .bool (idx y9.1 (0 : Int) == 2)), (38, .bool true), (39, .slice (some ⟨b42, 0, none⟩) y9.1.length c12), (40, .pointer (some ⟨b42, 0 + (2 : Int).toNat * 1, none⟩)), (41, .int .i64 (idx y9.1 (2 : Int))), (42, .bool (idx y9.1 (2 : Int) == 0)), (43, .bool (idx y9.1 (2 : Int) == 0)), (44, .bool true), (45, .int .i64 y17.2), (46, .bool (y17.2 == 0)), (47, .bool (y17.2 == 0)), (48, .bool true), (49, .slice (some ⟨b49, 0, none⟩) y17.1.length c20), (50, .int .i64 (y17.1.length : Int)), (51, .bool ((y17.1.length : Int) == 3)), (52, .bool ((y17.1.length : Int) == 3)), (53, .bool true), (54, .slice (some ⟨b49, 0, none⟩) y17.1.length c20), (55, .pointer (some ⟨b49, 0 + (1 : Int).toNat * 1, none⟩)), (56, .bool (idx y17.1 (1 : Int))), (57, .bool (idx y17.1 (1 : Int))), (58, .bool true), (59, .slice (some ⟨b49, 0, none⟩) y17.1.length c20), (60, .pointer (some ⟨b49, 0 + (0 : Int).toNat * 1, none⟩)), (61, .bool (idx y17.1 (0 : Int))), (62, .bool (!(idx y17.1 (0 : Int)))), (63, .bool (!(idx y17.1 (0 : Int)))), (64, .bool false), (65, undef), (66, undef), (67, undef), (68, .bool false), (0, .bool false)] [((bif (y9.2.2 == 0) == true then 0 else -1), 1), ((bif y9.2.1 == true then 0 else -1), 1), ((bif ((y9.1.length : Int) == 3) == true then 0 else -1), 1), (0, y9.1.length), ((bif (idx y9.1 (0 : Int) == 2) == true then 0 else -1), 1), (2, y9.1.length), ((bif (idx y9.1 (2 : Int) == 0) == true then 0 else -1), 1), ((bif (y17.2 == 0) == true then 0 else -1), 1), ((bif ((y17.1.length : Int) == 3) == true then 0 else -1), 1), (1, y17.1.length), ((bif (idx y17.1 (1 : Int)) == true then 0 else -1), 1), (0, y17.1.length), ((bif (!(idx y17.1 (0 : Int))) == false then 0 else -1), 1)] ⟨(rdS.flook (hI.row 2 rfl) (hI.rowlen 2 rfl) g41).ok, (rdS.flook (hI.row 2 rfl) (hI.rowlen 2 rfl) g44).ok, (rdS.flook (hI.row 3 rfl) (hI.rowlen 3 rfl) g48).ok, (rdS.flook (hI.row 3 rfl) (hI.rowlen 3 rfl) g51).ok, trivial⟩ ⟨(bndEq hc38), (bndEq hc39), (bndEq hc40), g41, (bndEq hc43), g44, (bndEq hc45), (bndEq hc46), (bndEq hc47), g48, (bndEq hc50), g51, (bndEq hc52), trivial⟩ (by kernel_rfl) (by kernel_rfl) (by kernel_rfl) ?_
                    refine r_out (by kernel_rfl) ?_
                    replace H := Option.some.inj H
                    subst H
                    exact go_return (.bool false) Tryd.func10 (by kernel_rfl) ⟨rfl, hI.pick [] (by decide) rfl⟩
                · refine o_batch 0 [(b42, 0 + (0 : Int).toNat * 1, [.int .i64 (idx y9.1 (0 : Int))]), (b42, 0 + (2 : Int).toNat * 1, [.int .i64 (idx y9.1 (2 : Int))]), (b49, 0 + (1 : Int).toNat * 1, [.bool (idx y17.1 (1 : Int))])] [.p, .p, .c true, .p, .p, .c true, .p, .p, .p, .p, .c true, .p, .x, .l 0 0, .p, .p, .c true, .p, .x, .l 1 0, .p, .p, .c true, .p, .p, .p, .c true, .p, .p, .p, .p, .c true, .p, .x, .l 2 0, .p, .c false, .p, .p, .p, .p, .p, .p, .p, .p, .p, .p, .p] [(22, .int .i64 y9.2.2), (23, .bool (y9.2.2 == 0)), (24, .bool true), (25, .bool y9.2.1), (26, .bool y9.2.1), (27, .bool true), (28, .slice (some ⟨b42, 0, none⟩) y9.1.length c12), (29, .int .i64 (y9.1.length : Int)), (30, .bool ((y9.1.length : Int) == 3)), (31, .bool ((y9.1.length : Int) == 3)), (32, .bool true), (33, .slice (some ⟨b42, 0, none⟩) y9.1.length c12), (34, .pointer (some ⟨b42, 0 + (0 : Int).toNat * 1, none⟩)), (35, .int .i64 (idx y9.1 (0 : Int))), (36, .bool (idx y9.1 (0 : Int) == 2)), (37, .bool (idx y9.1 (0 : Int) == 2)), (38, .bool true), (39, .slice (some ⟨b42, 0, none⟩) y9.1.length c12), (40, .pointer (some ⟨b42, 0 + (2 : Int).toNat * 1, none⟩)), (41, .int .i64 (idx y9.1 (2 : Int))), (42, .bool (idx y9.1 (2 : Int) == 0)), (43, .bool (idx y9.1 (2 : Int) == 0)), (44, .bool true), (45, .int .i64 y17.2), (46, .bool (y17.2 == 0)), (47, .bool (y17.2 == 0)), (48, .bool true), (49, .slice (some ⟨b49, 0, none⟩) y17.1.length c20), (50, .int .i64 (y17.1.length : Int)), (51, .bool ((y17.1.length : Int) == 3)), (52, .bool ((y17.1.length : Int) == 3)), (53, .bool true), (54, .slice (some ⟨b49, 0, none⟩) y17.1.length c20), (55, .pointer (some ⟨b49, 0 + (1 : Int).toNat * 1, none⟩)), (56, .bool (idx y17.1 (1 : Int))), (57, .bool (idx y17.1 (1 : Int))), (58, .bool false), (59, undef), (60, undef), (61, undef), (62, undef), (63, .bool false), (64, .bool false), (65, undef), (66, undef), (67, undef), (68, .bool false), (0, .bool false)] [((bif (y9.2.2 == 0) == true then 0 else -1), 1), ((bif y9.2.1 == true then 0 else -1), 1), ((bif ((y9.1.length : Int) == 3) == true then 0 else -1), 1), (0, y9.1.length), ((bif (idx y9.1 (0 : Int) == 2) == true then 0 else -1), 1), (2, y9.1.length), ((bif (idx y9.1 (2 : Int) == 0) == true then 0 else -1), 1), ((bif (y17.2 == 0) == true then 0 else -1), 1), ((bif ((y17.1.length : Int) == 3) == true then 0 else -1), 1), (1, y17.1.length), ((bif (idx y17.1 (1 : Int)) == false then 0 else -1), 1)] ⟨(rdS.flook (hI.row 2 rfl) (hI.rowlen 2 rfl) g41).ok, (rdS.flook (hI.row 2 rfl) (hI.rowlen 2 rfl) g44).ok, (rdS.flook (hI.row 3 rfl) (hI.rowlen 3 rfl) g48).ok, trivial⟩ ⟨(bndEq hc38), (bndEq hc39), (bndEq hc40), g41, (bndEq hc43), g44, (bndEq hc45), (bndEq hc46), (bndEq hc47), g48, (bndEq hc50), trivial⟩ (by kernel_rfl) (by kernel_rfl) (by kernel_rfl) ?_
                  refine r_out (by kernel_rfl) ?_
                  replace H := Option.some.inj H
                  subst H
                  exact go_return (.bool false) Tryd.func10 (by kernel_rfl) ⟨rfl, hI.pick [] (by decide) rfl⟩
              · refine o_batch 0 [(b42, 0 + (0 : Int).toNat * 1, [.int .i64 (idx y9.1 (0 : Int))]), (b42, 0 + (2 : Int).toNat * 1, [.int .i64 (idx y9.1 (2 : Int))])] [.p, .p, .c true, .p, .p, .c true, .p, .p, .p, .p, .c true, .p, .x, .l 0 0, .p, .p, .c true, .p, .x, .l 1 0, .p, .p, .c true, .p, .p, .p, .c true, .p, .p, .p, .p, .c false, .p, .p, .p, .p, .p, .p, .p, .p, .p, .p, .p, .p, .p, .p, .p, .p] [(22, .int .i64 y9.2.2), (23, .bool (y9.2.2 == 0)), (24, .bool true), (25, .bool y9.2.1), (26, .bool y9.2.1), (27, .bool true), (28, .slice (some ⟨b42, 0, none⟩) y9.1.length c12), (29, .int .i64 (y9.1.length : Int)), (30, .bool ((y9.1.length : Int) == 3)), (31, .bool ((y9.1.length : Int) == 3)), (32, .bool true), (33, .slice (some ⟨b42, 0, none⟩) y9.1.length c12), (34, .pointer (some ⟨b42, 0 + (0 : Int).toNat * 1, none⟩)), (35, .int .i64 (idx y9.1 (0 : Int))), (36, .bool (idx y9.1 (0 : Int) == 2)), (37, .bool (idx y9.1 (0 : Int) == 2)), (38, .bool true), (39, .slice (some ⟨b42, 0, none⟩) y9.1.length c12), (40, .pointer (some ⟨b42, 0 + (2 : Int).toNat * 1, none⟩)), (41, .int .i64 (idx y9.1 (2 : Int))), (42, .bool (idx y9.1 (2 : Int) == 0)), (43, .bool (idx y9.1 (2 : Int) == 0)), (44, .bool true), (45, .int .i64 y17.2), (46, .bool (y17.2 == 0)), (47, .bool (y17.2 == 0)), (48, .bool true), (49, .slice A19 y17.1.length c20), (50, .int .i64 (y17.1.length : Int)), (51, .bool ((y17.1.length : Int) == 3)), (52, .bool ((y17.1.length : Int) == 3)), (53, .bool false), (54, undef), (55, undef), (56, undef), (57, .bool false), (58, .bool false), (59, undef), (60, undef), (61, undef), (62, undef), (63, .bool false), (64, .bool false), (65, undef), (66, undef), (67, undef), (68, .bool false), (0, .bool false)] [((bif (y9.2.2 == 0) == true then 0 else -1), 1), ((bif y9.2.1 == true then 0 else -1), 1), ((bif ((y9.1.length : Int) == 3) == true then 0 else -1), 1), (0, y9.1.length), ((bif (idx y9.1 (0 : Int) == 2) == true then 0 else -1), 1), (2, y9.1.length), ((bif (idx y9.1 (2 : Int) == 0) == true then 0 else -1), 1), ((bif (y17.2 == 0) == true then 0 else -1), 1), ((bif ((y17.1.length : Int) == 3) == false then 0 else -1), 1)] ⟨(rdS.flook (hI.row 2 rfl) (hI.rowlen 2 rfl) g41).ok, (rdS.flook (hI.row 2 rfl) (hI.rowlen 2 rfl) g44).ok, trivial⟩ ⟨(bndEq hc38), (bndEq hc39), (bndEq hc40), g41, (bndEq hc43), g44, (bndEq hc45), (bndEq hc46), (bndEq hc47), trivial⟩ (by kernel_rfl) (by kernel_rfl) (by kernel_rfl) ?_
                refine r_out (by kernel_rfl) ?_
                replace H := Option.some.inj H
                subst H
                exact go_return (.bool false) Tryd.func10 (by kernel_rfl) ⟨rfl, hI.pick [] (by decide) rfl⟩
            · refine o_batch 0 [(b42, 0 + (0 : Int).toNat * 1, [.int .i64 (idx y9.1 (0 : Int))]), (b42, 0 + (2 : Int).toNat * 1, [.int .i64 (idx y9.1 (2 : Int))])] [.p, .p, .c true, .p, .p, .c true, .p, .p, .p, .p, .c true, .p, .x, .l 0 0, .p, .p, .c true, .p, .x, .l 1 0, .p, .p, .c true, .p, .p, .p, .c false, .p, .p, .p, .p, .p, .p, .p, .p, .p, .p, .p, .p, .p, .p, .p, .p, .p, .p, .p, .p, .p] [(22, .int .i64 y9.2.2), (23, .bool (y9.2.2 == 0)), (24, .bool true), (25, .bool y9.2.1), (26, .bool y9.2.1), (27, .bool true), (28, .slice (some ⟨b42, 0, none⟩) y9.1.length c12), (29, .int .i64 (y9.1.length : Int)), (30, .bool ((y9.1.length : Int) == 3)), (31, .bool ((y9.1.length : Int) == 3)), (32, .bool true), (33, .slice (some ⟨b42, 0, none⟩) y9.1.length c12), (34, .pointer (some ⟨b42, 0 + (0 : Int).toNat * 1, none⟩)), (35, .int .i64 (idx y9.1 (0 : Int))), (36, .bool (idx y9.1 (0 : Int) == 2)), (37, .bool (idx y9.1 (0 : Int) == 2)), (38, .bool true), (39, .slice (some ⟨b42, 0, none⟩) y9.1.length c12), (40, .pointer (some ⟨b42, 0 + (2 : Int).toNat * 1, none⟩)), (41, .int .i64 (idx y9.1 (2 : Int))), (42, .bool (idx y9.1 (2 : Int) == 0)), (43, .bool (idx y9.1 (2 : Int) == 0)), (44, .bool true), (45, .int .i64 y17.2), (46, .bool (y17.2 == 0)), (47, .bool (y17.2 == 0)), (48, .bool false), (49, undef), (50, undef), (51, undef), (52, .bool false), (53, .bool false), (54, undef), (55, undef), (56, undef), (57, .bool false), (58, .bool false), (59, undef), (60, undef), (61, undef), (62, undef), (63, .bool false), (64, .bool false), (65, undef), (66, undef), (67, undef), (68, .bool false), (0, .bool false)] [((bif (y9.2.2 == 0) == true then 0 else -1), 1), ((bif y9.2.1 == true then 0 else -1), 1), ((bif ((y9.1.length : Int) == 3) == true then 0 else -1), 1), (0, y9.1.length), ((bif (idx y9.1 (0 : Int) == 2) == true then 0 else -1), 1), (2, y9.1.length), ((bif (idx y9.1 (2 : Int) == 0) == true then 0 else -1), 1), ((bif (y17.2 == 0) == false then 0 else -1), 1)] ⟨(rdS.flook (hI.row 2 rfl) (hI.rowlen 2 rfl) g41).ok, (rdS.flook (hI.row 2 rfl) (hI.rowlen 2 rfl) g44).ok, trivial⟩ ⟨(bndEq hc38), (bndEq hc39), (bndEq hc40), g41, (bndEq hc43), g44, (bndEq hc45), (bndEq hc46), trivial⟩ (by kernel_rfl) (by kernel_rfl) (by kernel_rfl) ?_
              refine r_out (by kernel_rfl) ?_
              replace H := Option.some.inj H
              subst H
              exact go_return (.bool false) Tryd.func10 (by kernel_rfl) ⟨rfl, hI.pick [] (by decide) rfl⟩
          · refine o_batch 0 [(b42, 0 + (0 : Int).toNat * 1, [.int .i64 (idx y9.1 (0 : Int))]), (b42, 0 + (2 : Int).toNat * 1, [.int .i64 (idx y9.1 (2 : Int))])] [.p, .p, .c true, .p, .p, .c true, .p, .p, .p, .p, .c true, .p, .x, .l 0 0, .p, .p, .c true, .p, .x, .l 1 0, .p, .p, .c false, .p, .p, .p, .p, .p, .p, .p, .p, .p, .p, .p, .p, .p, .p, .p, .p, .p, .p, .p, .p, .p, .p, .p, .p, .p] [(22, .int .i64 y9.2.2), (23, .bool (y9.2.2 == 0)), (24, .bool true), (25, .bool y9.2.1), (26, .bool y9.2.1), (27, .bool true), (28, .slice (some ⟨b42, 0, none⟩) y9.1.length c12), (29, .int .i64 (y9.1.length : Int)), (30, .bool ((y9.1.length : Int) == 3)), (31, .bool ((y9.1.length : Int) == 3)), (32, .bool true), (33, .slice (some ⟨b42, 0, none⟩) y9.1.length c12), (34, .pointer (some ⟨b42, 0 + (0 : Int).toNat * 1, none⟩)), (35, .int .i64 (idx y9.1 (0 : Int))), (36, .bool (idx y9.1 (0 : Int) == 2)), (37, .bool (idx y9.1 (0 : Int) == 2)), (38, .bool true), (39, .slice (some ⟨b42, 0, none⟩) y9.1.length c12), (40, .pointer (some ⟨b42, 0 + (2 : Int).toNat * 1, none⟩)), (41, .int .i64 (idx y9.1 (2 : Int))), (42, .bool (idx y9.1 (2 : Int) == 0)), (43, .bool (idx y9.1 (2 : Int) == 0)), (44, .bool false), (45, undef), (46, undef), (47, .bool false), (48, .bool false), (49, undef), (50, undef), (51, undef), (52, .bool false), (53, .bool false), (54, undef), (55, undef), (56, undef), (57, .bool false), (58, .bool false), (59, undef), (60, undef), (61, undef), (62, undef), (63, .bool false), (64, .bool false), (65, undef), (66, undef), (67, undef), (68, .bool false), (0, .bool false)] [((bif (y9.2.2 == 0) == true then 0 else -1), 1), ((bif y9.2.1 == true then 0 else -1), 1), ((bif ((y9.1.length : Int) == 3) == true then 0 else -1), 1), (0, y9.1.length), ((bif (idx y9.1 (0 : Int) == 2) == true then 0 else -1), 1), (2, y9.1.length), ((bif (idx y9.1 (2 : Int) == 0) == false then 0 else -1), 1)] ⟨(rdS.flook (hI.row 2 rfl) (hI.rowlen 2 rfl) g41).ok, (rdS.flook (hI.row 2 rfl) (hI.rowlen 2 rfl) g44).ok, trivial⟩ ⟨(bndEq hc38), (bndEq hc39), (bndEq hc40), g41, (bndEq hc43), g44, (bndEq hc45), trivial⟩ (by kernel_rfl) (by kernel_rfl) (by kernel_rfl) ?_
            refine r_out (by kernel_rfl) ?_
            replace H := Option.some.inj H
            subst H
            exact go_return (.bool false) Tryd.func10 (by kernel_rfl) ⟨rfl, hI.pick [] (by decide) rfl⟩
        · refine o_batch 0 [(b42, 0 + (0 : Int).toNat * 1, [.int .i64 (idx y9.1 (0 : Int))])] [.p, .p, .c true, .p, .p, .c true, .p, .p, .p, .p, .c true, .p, .x, .l 0 0, .p, .p, .c false, .p, .p, .p, .p, .p, .p, .p, .p, .p, .p, .p, .p, .p, .p, .p, .p, .p, .p, .p, .p, .p, .p, .p, .p, .p, .p, .p, .p, .p, .p, .p] [(22, .int .i64 y9.2.2), (23, .bool (y9.2.2 == 0)), (24, .bool true), (25, .bool y9.2.1), (26, .bool y9.2.1), (27, .bool true), (28, .slice (some ⟨b42, 0, none⟩) y9.1.length c12), (29, .int .i64 (y9.1.length : Int)), (30, .bool ((y9.1.length : Int) == 3)), (31, .bool ((y9.1.length : Int) == 3)), (32, .bool true), (33, .slice (some ⟨b42, 0, none⟩) y9.1.length c12), (34, .pointer (some ⟨b42, 0 + (0 : Int).toNat * 1, none⟩)), (35, .int .i64 (idx y9.1 (0 : Int))), (36, .bool (idx y9.1 (0 : Int) == 2)), (37, .bool (idx y9.1 (0 : Int) == 2)), (38, .bool false), (39, undef), (40, undef), (41, undef), (42, undef), (43, .bool false), (44, .bool false), (45, undef), (46, undef), (47, .bool false), (48, .bool false), (49, undef), (50, undef), (51, undef), (52, .bool false), (53, .bool false), (54, undef), (55, undef), (56, undef), (57, .bool false), (58, .bool false), (59, undef), (60, undef), (61, undef), (62, undef), (63, .bool false), (64, .bool false), (65, undef), (66, undef), (67, undef), (68, .bool false), (0, .bool false)] [((bif (y9.2.2 == 0) == true then 0 else -1), 1), ((bif y9.2.1 == true then 0 else -1), 1), ((bif ((y9.1.length : Int) == 3) == true then 0 else -1), 1), (0, y9.1.length), ((bif (idx y9.1 (0 : Int) == 2) == false then 0 else -1), 1)] ⟨(rdS.flook (hI.row 2 rfl) (hI.rowlen 2 rfl) g41).ok, trivial⟩ ⟨(bndEq hc38), (bndEq hc39), (bndEq hc40), g41, (bndEq hc43), trivial⟩ (by kernel_rfl) (by kernel_rfl) (by kernel_rfl) ?_
          refine r_out (by kernel_rfl) ?_
          replace H := Option.some.inj H
          subst H
          exact go_return (.bool false) Tryd.func10 (by kernel_rfl) ⟨rfl, hI.pick [] (by decide) rfl⟩
      · refine o_batch 0 [] [.p, .p, .c true, .p, .p, .c true, .p, .p, .p, .p, .c false, .p, .p, .p, .p, .p, .p, .p, .p, .p, .p, .p, .p, .p, .p, .p, .p, .p, .p, .p, .p, .p, .p, .p, .p, .p, .p, .p, .p, .p, .p, .p, .p, .p, .p, .p, .p, .p] [(22, .int .i64 y9.2.2), (23, .bool (y9.2.2 == 0)), (24, .bool true), (25, .bool y9.2.1), (26, .bool y9.2.1), (27, .bool true), (28, .slice A11 y9.1.length c12), (29, .int .i64 (y9.1.length : Int)), (30, .bool ((y9.1.length : Int) == 3)), (31, .bool ((y9.1.length : Int) == 3)), (32, .bool false), (33, undef), (34, undef), (35, undef), (36, undef), (37, .bool false), (38, .bool false), (39, undef), (40, undef), (41, undef), (42, undef), (43, .bool false), (44, .bool false), (45, undef), (46, undef), (47, .bool false), (48, .bool false), (49, undef), (50, undef), (51, undef), (52, .bool false), (53, .bool false), (54, undef), (55, undef), (56, undef), (57, .bool false), (58, .bool false), (59, undef), (60, undef), (61, undef), (62, undef), (63, .bool false), (64, .bool false), (65, undef), (66, undef), (67, undef), (68, .bool false), (0, .bool false)] [((bif (y9.2.2 == 0) == true then 0 else -1), 1), ((bif y9.2.1 == true then 0 else -1), 1), ((bif ((y9.1.length : Int) == 3) == false then 0 else -1), 1)] trivial ⟨(bndEq hc38), (bndEq hc39), (bndEq hc40), trivial⟩ (by kernel_rfl) (by kernel_rfl) (by kernel_rfl) ?_
        refine r_out (by kernel_rfl) ?_
        replace H := Option.some.inj H
        subst H
        exact go_return (.bool false) Tryd.func10 (by kernel_rfl) ⟨rfl, hI.pick [] (by decide) rfl⟩
    · refine o_batch 0 [] [.p, .p, .c true, .p, .p, .c false, .p, .p, .p, .p, .p, .p, .p, .p, .p, .p, .p, .p, .p, .p, .p, .p, .p, .p, .p, .p, .p, .p, .p, .p, .p, .p, .p, .p, .p, .p, .p, .p, .p, .p, .p, .p, .p, .p, .p, .p, .p, .p] [(22, .int .i64 y9.2.2), (23, .bool (y9.2.2 == 0)), (24, .bool true), (25, .bool y9.2.1), (26, .bool y9.2.1), (27, .bool false), (28, undef), (29, undef), (30, undef), (31, .bool false), (32, .bool false), (33, undef), (34, undef), (35, undef), (36, undef), (37, .bool false), (38, .bool false), (39, undef), (40, undef), (41, undef), (42, undef), (43, .bool false), (44, .bool false), (45, undef), (46, undef), (47, .bool false), (48, .bool false), (49, undef), (50, undef), (51, undef), (52, .bool false), (53, .bool false), (54, undef), (55, undef), (56, undef), (57, .bool false), (58, .bool false), (59, undef), (60, undef), (61, undef), (62, undef), (63, .bool false), (64, .bool false), (65, undef), (66, undef), (67, undef), (68, .bool false), (0, .bool false)] [((bif (y9.2.2 == 0) == true then 0 else -1), 1), ((bif y9.2.1 == false then 0 else -1), 1)] trivial ⟨(bndEq hc38), (bndEq hc39), trivial⟩ (by kernel_rfl) (by kernel_rfl) (by kernel_rfl) ?_
      refine r_out (by kernel_rfl) ?_
      replace H := Option.some.inj H
      subst H
      exact go_return (.bool false) Tryd.func10 (by kernel_rfl) ⟨rfl, hI.pick [] (by decide) rfl⟩
  · refine o_batch 0 [] [.p, .p, .c false, .p, .p, .p, .p, .p, .p, .p, .p, .p, .p, .p, .p, .p, .p, .p, .p, .p, .p, .p, .p, .p, .p, .p, .p, .p, .p, .p, .p, .p, .p, .p, .p, .p, .p, .p, .p, .p, .p, .p, .p, .p, .p, .p, .p, .p] [(22, .int .i64 y9.2.2), (23, .bool (y9.2.2 == 0)), (24, .bool false), (25, undef), (26, .bool false), (27, .bool false), (28, undef), (29, undef), (30, undef), (31, .bool false), (32, .bool false), (33, undef), (34, undef), (35, undef), (36, undef), (37, .bool false), (38, .bool false), (39, undef), (40, undef), (41, undef), (42, undef), (43, .bool false), (44, .bool false), (45, undef), (46, undef), (47, .bool false), (48, .bool false), (49, undef), (50, undef), (51, undef), (52, .bool false), (53, .bool false), (54, undef), (55, undef), (56, undef), (57, .bool false), (58, .bool false), (59, undef), (60, undef), (61, undef), (62, undef), (63, .bool false), (64, .bool false), (65, undef), (66, undef), (67, undef), (68, .bool false), (0, .bool false)] [((bif (y9.2.2 == 0) == false then 0 else -1), 1)] trivial ⟨(bndEq hc38), trivial⟩ (by kernel_rfl) (by kernel_rfl) (by kernel_rfl) ?_
    refine r_out (by kernel_rfl) ?_
    replace H := Option.some.inj H
    subst H
    exact go_return (.bool false) Tryd.func10 (by kernel_rfl) ⟨rfl, hI.pick [] (by decide) rfl⟩

/-! ### assizeref06.Copy -/
theorem enter11 (a : Array Value) : Sem.pureRun Tryd.prog (callFunc 11 a) = some (.enter 11 a) := by kernel_rfl
theorem assizeref06zCopy_calls (a0 : Graph) (A0z0 : Option Addr) (c0z0 : Nat) (M : Mem) (w : World) (hI : Inv M w []) (hr0z0 : rdS kEdge M.blk A0z0 a0.Edges) (hl0z0 : a0.Edges.length ≤ c0z0) (r : Graph) (H : assizeref06zCopy a0 = some r) :
    Calls Tryd.prog 11 #[.agg #[.int .i64 a0.N, .slice A0z0 a0.Edges.length c0z0]] w fun e w' => ∃ (A14 : Option Addr) (c15 : Nat), e = .returned (.agg #[.int .i64 r.N, .slice A14 r.Edges.length c15]) ∧ Inv M w' [.row kEdge 40 A14 r.Edges.length c15 r.Edges] := by
  refine calls_go (updL (fun _ => undef) [(0, .agg #[.int .i64 a0.N, .slice A0z0 a0.Edges.length c0z0])]) Tryd.func11 rfl (by kernel_rfl) ?_
  intro cs
  unfold assizeref06zCopy at H
  refine go_seq ?_
  refine r_in ?_
  refine o_eff 0 _ rfl (by kernel_rfl) ?_
  refine e_box 24 _ (.agg #[.int .i64 a0.N, .slice A0z0 a0.Edges.length c0z0]) [.int .i64 a0.N, .slice A0z0 a0.Edges.length c0z0] rfl (by kernel_rfl) rfl hI ?_
  clear hI
  intro b3 _ hI
  refine o_eff 1 _ rfl (by kernel_rfl) ?_
  refine e_alloc 24 (.agg #[.int .i64 0, .slice none 0 0]) [.int .i64 0, .slice none 0 0] rfl (by kernel_rfl) rfl hI ?_
  clear hI
  intro b4 _ hI
  refine r_out (by kernel_rfl) ?_
  refine go_seq ?_
  replace H := must_some H
  obtain ⟨g10, H⟩ := H
  refine go_held (fun w => Inv M w [.blk b3 24 [.int .i64 a0.N, .slice A0z0 a0.Edges.length c0z0]]) (by kernel_rfl) ?_
  replace hI := hI.drew'
  refine held_batch (n := 4) [(b3, 0, [.int .i64 a0.N, .slice A0z0 a0.Edges.length c0z0])] [(0, .p), (1, .l 0 0), (3, .p), (4, .l 0 1)] [(3, .pointer (some ⟨b3, 0, none⟩)), (4, .int .i64 a0.N), (6, .pointer (some ⟨b3, 1, none⟩)), (7, .slice A0z0 a0.Edges.length c0z0)] [] [true, true, false, true, true, false, false, false] (by kernel_rfl) (fun w hS => ⟨(hS.grp 0 rfl), trivial⟩) (hI.pick [0] (by decide) rfl) trivial (by kernel_rfl) (by kernel_rfl) (by kernel_rfl) ?_
  refine held_one (n := 3) 2 _ rfl (by kernel_rfl) (by kernel_rfl) (e_empty (α := Edge) kEdge 22 40 _ rfl rfl rfl hI ?_)
  clear hI
  intro b9 _ hI
  refine ⟨(hI.pick [0] (by decide) rfl), ?_⟩
  refine held_one (n := 2) 5 _ rfl (by kernel_rfl) (by kernel_rfl) (e_append_rd (kt := kEdge) 22 0 40 _ _ _ _ (some ⟨b9, 0, none⟩) A0z0 0 0 ([] : List Edge) a0.Edges c0z0 2 [0, 1] [.blk b3 24 [.int .i64 a0.N, .slice A0z0 a0.Edges.length c0z0], .blk b4 24 [.int .i64 0, .slice none 0 0]] rfl (by kernel_rfl) (by kernel_rfl) rfl rfl rfl rfl rfl (by kernel_rfl) hI (by decide) rfl (hI.rd hr0z0) g10 ?_)
  clear hI
  intro A11 c12 _ hI
  refine ⟨(hI.pick [1] (by decide) rfl), ?_⟩
  refine held_batch (n := 1) [] [(6, .p)] [(9, .agg #[.int .i64 a0.N, .slice A11 ((([] : List Edge) ++ a0.Edges).length) c12])] [] [true, true, true, true, true, true, true, false] (by kernel_rfl) (fun w hS => trivial) (hI.pick [1] (by decide) rfl) trivial (by kernel_rfl) (by kernel_rfl) (by kernel_rfl) ?_
  refine held_one (n := 0) 7 _ rfl (by kernel_rfl) (by kernel_rfl) (e_store 24 _ _ 2 b4 24 [.int .i64 0, .slice none 0 0] [.int .i64 a0.N, .slice A11 ((([] : List Edge) ++ a0.Edges).length) c12] 0 (.agg #[.int .i64 a0.N, .slice A11 ((([] : List Edge) ++ a0.Edges).length) c12]) rfl (by kernel_rfl) (by kernel_rfl) (by kernel_rfl) (by kernel_rfl) hI rfl (by kernel_rfl) (by kernel_rfl) ?_)
  clear hI
  intro _ hI
  refine ⟨(hI.pick [1] (by decide) rfl), ?_⟩
  refine held_done (by kernel_rfl) ?_
  replace H := Option.some.inj H
  subst H
  exact go_return_c [(b4, 0, [.int .i64 a0.N, .slice A11 ((([] : List Edge) ++ a0.Edges).length) c12])] [.c 0] [.agg #[.int .i64 a0.N, .slice A11 ((([] : List Edge) ++ a0.Edges).length) c12]] (.agg #[.int .i64 a0.N, .slice A11 ((([] : List Edge) ++ a0.Edges).length) c12]) Tryd.func11 ⟨(hI.grp 2 rfl), trivial⟩ (by kernel_rfl) (by kernel_rfl) (by kernel_rfl) (by kernel_rfl) ⟨A11, c12, rfl, hI.pick [0] (by decide) rfl⟩

/-! ### graph.Closure -/
theorem enter14 (a : Array Value) : Sem.pureRun Tryd.prog (callFunc 14 a) = some (.enter 14 a) := by kernel_rfl
theorem graph_Closure_calls (a0 : Graph) (A0z0 : Option Addr) (c0z0 : Nat) (a1 : Int) (M : Mem) (w : World) (hI : Inv M w []) (hT : TabM M.blk) (hr0z0 : rdS kEdge M.blk A0z0 a0.Edges) (hl0z0 : a0.Edges.length ≤ c0z0) (r : (List (List Bool)) × Int) (H : graph_Closure a0 a1 = some r) :
    Calls Tryd.prog 14 #[.agg #[.int .i64 a0.N, .slice A0z0 a0.Edges.length c0z0], .int .i64 a1] w fun e w' => ∃ (A268 : Option Addr) (c269 : Nat), e = .returned (.tuple #[.slice A268 r.1.length c269, .int .i64 r.2]) ∧ Inv M w' [.row (tSlice 4 tBool) 27 A268 r.1.length c269 r.1] := by
  refine calls_go (updL (fun _ => undef) [(0, .agg #[.int .i64 a0.N, .slice A0z0 a0.Edges.length c0z0]), (1, .int .i64 a1)]) Tryd.func14 rfl (by kernel_rfl) ?_
  intro cs
  unfold graph_Closure at H
  refine go_seq ?_
  refine r_in ?_
  refine o_eff 0 _ rfl (by kernel_rfl) ?_
  refine e_box 24 _ (.agg #[.int .i64 a0.N, .slice A0z0 a0.Edges.length c0z0]) [.int .i64 a0.N, .slice A0z0 a0.Edges.length c0z0] rfl (by kernel_rfl) rfl hI ?_
  clear hI
  intro b2 _ hI
  refine o_batch 1 [] [.p, .p] [(4, .slice none 0 0), (5, .int .i64 0)] [] trivial trivial (by kernel_rfl) (by kernel_rfl) (by kernel_rfl) ?_
  refine r_out (by kernel_rfl) ?_
  refine go_seq ?_
  refine go_seq ?_
  refine r_in ?_
  refine o_batch 0 [(b2, 0, [.int .i64 a0.N, .slice A0z0 a0.Edges.length c0z0])] [.l 0 0] [(10, .agg #[.int .i64 a0.N, .slice A0z0 a0.Edges.length c0z0])] [] ⟨(hI.grp 0 rfl), trivial⟩ trivial (by kernel_rfl) (by kernel_rfl) (by kernel_rfl) ?_
  replace H := bind_some H
  obtain ⟨y8, hy9, H⟩ := H
  refine o_eff 1 _ rfl (by kernel_rfl) ?_
  refine e_callf _ _ _ 18 #[] #[] #[.agg #[.int .i64 a0.N, .slice A0z0 a0.Edges.length c0z0]] #[.agg #[.int .i64 a0.N, .slice A0z0 a0.Edges.length c0z0]] rfl (by kernel_rfl) (by kernel_rfl) (by kernel_rfl) (enter18 _) (graph_Check_calls a0 A0z0 c0z0 (memOf _) _ (Inv.start _) (hI.rd hr0z0) hl0z0 _ hy9) ?_
  rintro _ _ ⟨rfl, hI'⟩
  replace hI := hI.call0 hI'
  clear hI'
  refine ⟨_, rfl, ?_⟩
  refine o_batch 2 [] [.p] [(6, .int .i64 y8)] [] trivial trivial (by kernel_rfl) (by kernel_rfl) (by kernel_rfl) ?_
  refine r_out (by kernel_rfl) ?_
  refine go_seq ?_
  refine r_in ?_
  refine o_batch 0 [] [.p, .p] [(12, .int .i64 y8), (13, .bool (y8 != 0))] [] trivial trivial (by kernel_rfl) (by kernel_rfl) (by kernel_rfl) ?_
  refine r_out (by kernel_rfl) ?_
  replace H := cond_some H
  rcases H with ⟨hc10, H⟩ | ⟨hc10, H⟩
  · refine go_then' (t := (y8 != 0)) (by kernel_rfl) hc10 ?_
    refine go_seq ?_
    refine r_in ?_
    refine o_batch 0 [] [.p, .p, .p] [(14, .int .i64 y8), (4, .slice none 0 0), (5, .int .i64 y8)] [] trivial trivial (by kernel_rfl) (by kernel_rfl) (by kernel_rfl) ?_
    refine r_out (by kernel_rfl) ?_
    replace H := Option.some.inj H
    subst H
    exact go_return (.tuple #[.slice none 0 0, .int .i64 y8]) Tryd.func14 (by kernel_rfl) ⟨none, 0, rfl, (hI.nilrow (tSlice 4 tBool) 27).pick [1] (by decide) rfl⟩
  · refine go_else' (t := (y8 != 0)) (by kernel_rfl) hc10 ?_
    refine go_skip ?_
    refine go_seq ?_
    refine r_in ?_
    refine o_batch 0 [(b2, 0, [.int .i64 a0.N, .slice A0z0 a0.Edges.length c0z0])] [.l 0 0, .p] [(15, .agg #[.int .i64 a0.N, .slice A0z0 a0.Edges.length c0z0]), (16, .int .i64 a1)] [] ⟨(hI.grp 0 rfl), trivial⟩ trivial (by kernel_rfl) (by kernel_rfl) (by kernel_rfl) ?_
    replace H := bind_some H
    obtain ⟨y15, hy16, H⟩ := H
    refine o_eff 2 _ rfl (by kernel_rfl) ?_
    refine e_callf _ _ _ 32 #[] #[] #[.agg #[.int .i64 a0.N, .slice A0z0 a0.Edges.length c0z0], .int .i64 a1] #[.agg #[.int .i64 a0.N, .slice A0z0 a0.Edges.length c0z0], .int .i64 a1] rfl (by kernel_rfl) (by kernel_rfl) (by kernel_rfl) (enter32 _) (graph_rows_calls a0 A0z0 c0z0 a1 (memOf _) _ (Inv.start _) (hI.rd hr0z0) hl0z0 _ hy16) ?_
    rintro _ _ ⟨A17, c18, rfl, hI'⟩
    replace hI := hI.call0 hI'
    clear hI'
    refine ⟨_, rfl, ?_⟩
    refine o_batch 3 [] [.p] [(7, .slice A17 y15.length c18)] [] trivial trivial (by kernel_rfl) (by kernel_rfl) (by kernel_rfl) ?_
    refine r_out (by kernel_rfl) ?_
    refine go_seq ?_
    refine r_in ?_
    refine o_batch 0 [(b2, 0, [.int .i64 a0.N, .slice A0z0 a0.Edges.length c0z0])] [.p, .l 0 0] [(18, .pointer (some ⟨b2, 0, none⟩)), (19, .int .i64 a0.N)] [] ⟨(hI.grp 0 rfl), trivial⟩ trivial (by kernel_rfl) (by kernel_rfl) (by kernel_rfl) ?_
    replace H := must_some H
    obtain ⟨g21, H⟩ := H
    refine o_eff 2 _ rfl (by kernel_rfl) ?_
    refine e_make (tSlice 4 tBool) (default : List Bool) 31 27 _ _ _ (.slice none 0 0) a0.N rfl rfl rfl rfl rfl rfl (fun _ => ⟨none, 0, rfl, rowOwn.nil⟩) (by kernel_rfl) (by kernel_rfl) g21 hI ?_
    clear hI
    intro b22 _ hI
    refine o_batch 3 [] [.p] [(8, .slice (some ⟨b22, 0, none⟩) a0.N.toNat a0.N.toNat)] [] trivial trivial (by kernel_rfl) (by kernel_rfl) (by kernel_rfl) ?_
    refine r_out (by kernel_rfl) ?_
    refine go_seq ?_
    refine go_seq ?_
    refine r_in ?_
    refine o_batch 0 [] [.p, .p, .p] [(21, .slice (some ⟨b22, 0, none⟩) a0.N.toNat a0.N.toNat), (22, .int .i64 (a0.N.toNat : Int)), (23, .int .i64 0)] [] trivial trivial (by kernel_rfl) (by kernel_rfl) (by kernel_rfl) ?_
    refine r_out (by kernel_rfl) ?_
    refine go_block ?_
    refine go_is 8 (.slice (some ⟨b22, 0, none⟩) a0.N.toNat a0.N.toNat) (.slice (some ⟨b22, 0, none⟩) ((List.replicate a0.N.toNat (default : List Bool)).length) a0.N.toNat) (by kernel_rfl) (by first | rfl | simp only [List.length_set, List.length_replicate, List.length_nil]) ?_
    replace hI := hI.renum 2 rfl
    refine go_iter (graph_Closure.s1 a0 y15) (fun (l216, x219) f w => ∃ (j : Nat → Value) (A217 : Option Addr) (c218 : Nat), f = updL j [(2, .pointer (some ⟨b2, 0, none⟩)), (7, .slice A17 y15.length c18), (8, .slice A217 l216.length c218), (22, .int .i64 (a0.N.toNat : Int)), (23, .int .i64 x219)] ∧ Inv M w [.blk b2 24 [.int .i64 a0.N, .slice A0z0 a0.Edges.length c0z0], .row (tInt .u64) 54 A17 y15.length c18 y15, .row (tSlice 4 tBool) 27 A217 l216.length c218 l216]) H ⟨_, (some ⟨b22, 0, none⟩), a0.N.toNat, at_slots _ (by kernel_rfl), hI⟩ ?_
    clear H hI
    rintro ⟨l216, x219⟩ _ _ o1 H ⟨_, A217, c218, rfl, hI⟩ hin1 hout1
    refine go_seq ?_
    refine r_in ?_
    refine o_batch 0 [] [.p] [(24, .bool (decide (x219 < (a0.N.toNat : Int))))] [] trivial trivial (by kernel_rfl) (by kernel_rfl) (by kernel_rfl) ?_
    refine r_out (by kernel_rfl) ?_
    refine go_seq ?_
    replace H := cond_some H
    rcases H with ⟨hc221, H⟩ | ⟨hc221, H⟩
    · refine go_then' (t := decide (x219 < (a0.N.toNat : Int))) (by kernel_rfl) hc221 ?_
      refine go_skip ?_
      refine go_seq ?_
      refine go_block ?_
      refine go_seq ?_
      refine r_in ?_
      refine o_batch 0 [] [.p, .p] [(25, .int .i64 x219), (9, .int .i64 x219)] [] trivial trivial (by kernel_rfl) (by kernel_rfl) (by kernel_rfl) ?_
      refine r_out (by kernel_rfl) ?_
      replace H := bind_some H
      obtain ⟨y252, hy253, H⟩ := H
      replace H := bind_some H
      obtain ⟨y254, hy255, H⟩ := H
      replace H := must_some H
      obtain ⟨g258, H⟩ := H
      obtain ⟨b259, rfl⟩ := hI.rowAt 2 rfl g258
      obtain ⟨cs262, hk261, hg260⟩ := rdS.look (hI.row 2 rfl) (hI.rowlen 2 rfl) g258
      obtain ⟨A263, c264, rfl, hl266, hr265⟩ := hk261
      refine go_held (fun w => Inv M w [.blk b2 24 [.int .i64 a0.N, .slice A0z0 a0.Edges.length c0z0], .row (tInt .u64) 54 A17 y15.length c18 y15]) (by kernel_rfl) ?_
      replace hI := hI.drew'
      refine held_batch (n := 4) [(b2, 0, [.int .i64 a0.N, .slice A0z0 a0.Edges.length c0z0])] [(0, .p), (1, .p), (2, .p), (3, .p), (5, .p), (6, .l 0 0)] [(26, .slice (some ⟨b259, 0, none⟩) l216.length c218), (27, .int .i64 x219), (28, .slice A17 y15.length c18), (29, .int .i64 x219), (31, .pointer (some ⟨b2, 0, none⟩)), (32, .int .i64 a0.N)] [] [true, true, true, true, false, true, true, false, false, false] (by kernel_rfl) (fun w hS => ⟨(hS.grp 0 rfl), trivial⟩) (hI.pick [0, 1] (by decide) rfl) trivial (by kernel_rfl) (by kernel_rfl) (by kernel_rfl) ?_
      refine held_one (n := 3) 4 _ rfl (by kernel_rfl) (by kernel_rfl) (e_callf _ _ _ 31 #[] #[] #[.slice A17 y15.length c18, .int .i64 x219] #[.slice A17 y15.length c18, .int .i64 x219] rfl (by kernel_rfl) (by kernel_rfl) (by kernel_rfl) (enter31 _) (graph_from_calls A17 c18 y15 x219 (memOf _) _ (Inv.start _) (hI.rd hT) (hI.row 1 rfl) (hI.rowle 1 rfl) _ hy253) ?_)
      rintro _ _ ⟨rfl, hI'⟩
      replace hI := hI.call0 hI'
      clear hI'
      refine ⟨_, rfl, ?_⟩
      refine ⟨(hI.pick [0, 1] (by decide) rfl), ?_⟩
      refine held_one (n := 2) 7 _ rfl (by kernel_rfl) (by kernel_rfl) (e_callf _ _ _ 30 #[] #[] #[.int .u64 y252, .int .i64 a0.N] #[.int .u64 y252, .int .i64 a0.N] rfl (by kernel_rfl) (by kernel_rfl) (by kernel_rfl) (enter30 _) (graph_spread_calls y252 a0.N (memOf _) _ (Inv.start _) _ hy255) ?_)
      rintro _ _ ⟨A256, c257, rfl, hI'⟩
      replace hI := hI.call0 hI'
      clear hI'
      refine ⟨_, rfl, ?_⟩
      refine ⟨(hI.pick [0, 1] (by decide) rfl), ?_⟩
      refine held_batch (n := 1) [] [(8, .x)] [(34, .pointer (some ⟨b259, 0 + x219.toNat * 1, none⟩))] [(x219, l216.length)] [true, true, true, true, true, true, true, true, true, false] (by kernel_rfl) (fun w hS => trivial) (hI.pick [0, 1] (by decide) rfl) ⟨g258, trivial⟩ (by kernel_rfl) (by kernel_rfl) (by kernel_rfl) ?_
      refine held_one (n := 0) 9 _ rfl (by kernel_rfl) (by kernel_rfl) (e_putown 27 _ _ 2 [3] [0, 1] b259 27 l216.length c218 l216 y254 x219 (.slice A256 y254.length c257) [.row tBool 4 A256 y254.length c257 y254] [.blk b2 24 [.int .i64 a0.N, .slice A0z0 a0.Edges.length c0z0], .row (tInt .u64) 54 A17 y15.length c18 y15] rfl (by kernel_rfl) (by kernel_rfl) (by kernel_rfl) (by kernel_rfl) hI (by decide) rfl g258 mk_row ?_)
      clear hI
      intro _ hI
      refine ⟨(hI.pick [1, 2] (by decide) rfl), ?_⟩
      refine held_done (by kernel_rfl) ?_
      refine go_inBlock ?_
      refine r_in ?_
      refine o_batch 0 [] [.p, .p] [(35, .int .i64 (w64 (x219 + 1))), (23, .int .i64 (w64 (x219 + 1)))] [] trivial trivial (by kernel_rfl) (by kernel_rfl) (by kernel_rfl) ?_
      refine r_out (by kernel_rfl) ?_
      refine go_is 8 (.slice (some ⟨b259, 0, none⟩) l216.length c218) (.slice (some ⟨b259, 0, none⟩) ((l216.set x219.toNat y254).length) c218) (by kernel_rfl) (by first | rfl | simp only [List.length_set, List.length_replicate, List.length_nil]) ?_
      replace hI := hI.renum 0 rfl
      exact hin1 _ (Option.some.inj H).symm _ _ ⟨_, (some ⟨b259, 0, none⟩), c218, at_slots _ (by kernel_rfl), hI.pick [1, 2, 0] (by decide) rfl⟩
    · refine go_else' (t := decide (x219 < (a0.N.toNat : Int))) (by kernel_rfl) hc221 ?_
      refine go_exit rfl ?_
      refine go_seq ?_
      refine r_in ?_
      refine o_batch 0 [] [.p, .p, .p] [(36, .slice A217 l216.length c218), (4, .slice A217 l216.length c218), (5, .int .i64 0)] [] trivial trivial (by kernel_rfl) (by kernel_rfl) (by kernel_rfl) ?_
      refine r_out (by kernel_rfl) ?_
      replace H := out_some H
      obtain ⟨_, H, he1⟩ := H
      have he := (hout1 _ he1).symm
      subst he
      replace H := Option.some.inj H
      subst H
      exact go_return (.tuple #[.slice A217 l216.length c218, .int .i64 0]) Tryd.func14 (by kernel_rfl) ⟨A217, c218, rfl, hI.pick [2] (by decide) rfl⟩

/-! ### assizelaw06.GraphMore -/
theorem enter4 (a : Array Value) : Sem.pureRun Tryd.prog (callFunc 4 a) = some (.enter 4 a) := by kernel_rfl
theorem assizelaw06zGraphMore_calls (a0 : Graph) (A0z0 : Option Addr) (c0z0 : Nat) (a1 : Edge) (a2 : Int) (M : Mem) (w : World) (hI : Inv M w []) (hT : TabM M.blk) (hr0z0 : rdS kEdge M.blk A0z0 a0.Edges) (hl0z0 : a0.Edges.length ≤ c0z0) (r : Bool) (H : assizelaw06zGraphMore a0 a1 a2 = some r) :
    Calls Tryd.prog 4 #[.agg #[.int .i64 a0.N, .slice A0z0 a0.Edges.length c0z0], .agg #[.int .i64 a1.From, .int .i64 a1.To, .int .i64 a1.Kind, .int .i64 a1.Key], .int .i64 a2] w fun e w' => e = .returned (.bool r) ∧ Inv M w' [] := by
  refine calls_go (updL (fun _ => undef) [(0, .agg #[.int .i64 a0.N, .slice A0z0 a0.Edges.length c0z0]), (1, .agg #[.int .i64 a1.From, .int .i64 a1.To, .int .i64 a1.Kind, .int .i64 a1.Key]), (2, .int .i64 a2)]) Tryd.func4 rfl (by kernel_rfl) ?_
  intro cs
  unfold assizelaw06zGraphMore at H
  refine go_seq ?_
  refine r_in ?_
  refine o_eff 0 _ rfl (by kernel_rfl) ?_
  refine e_box 24 _ (.agg #[.int .i64 a0.N, .slice A0z0 a0.Edges.length c0z0]) [.int .i64 a0.N, .slice A0z0 a0.Edges.length c0z0] rfl (by kernel_rfl) rfl hI ?_
  clear hI
  intro b3 _ hI
  refine o_eff 1 _ rfl (by kernel_rfl) ?_
  refine e_box 40 _ (.agg #[.int .i64 a1.From, .int .i64 a1.To, .int .i64 a1.Kind, .int .i64 a1.Key]) [.int .i64 a1.From, .int .i64 a1.To, .int .i64 a1.Kind, .int .i64 a1.Key] rfl (by kernel_rfl) rfl hI ?_
  clear hI
  intro b4 _ hI
  refine o_batch 2 [] [.p] [(6, .bool false)] [] trivial trivial (by kernel_rfl) (by kernel_rfl) (by kernel_rfl) ?_
  refine r_out (by kernel_rfl) ?_
  refine go_seq ?_
  refine go_seq ?_
  refine r_in ?_
  replace H := bind_some H
  obtain ⟨y10, hy11, H⟩ := H
  refine o_eff 0 _ rfl (by kernel_rfl) ?_
  refine e_callf _ _ _ 10 #[] #[] #[] #[] rfl (by kernel_rfl) (by kernel_rfl) (by kernel_rfl) (enter10 _) (assizelaw06zalive_calls (memOf _) _ (Inv.start _) (hI.rd hT) _ hy11) ?_
  rintro _ _ ⟨rfl, hI'⟩
  replace hI := hI.call0 hI'
  clear hI'
  refine ⟨_, rfl, ?_⟩
  refine o_batch 1 [] [.p] [(15, .bool (!y10))] [] trivial trivial (by kernel_rfl) (by kernel_rfl) (by kernel_rfl) ?_
  refine r_out (by kernel_rfl) ?_
  replace H := cond_some H
  rcases H with ⟨hc12, H⟩ | ⟨hc12, H⟩
  · refine go_then' (t := !y10) (by kernel_rfl) hc12 ?_
    refine go_seq ?_
    refine r_in ?_
    refine o_batch 0 [] [.p] [(6, .bool false)] [] trivial trivial (by kernel_rfl) (by kernel_rfl) (by kernel_rfl) ?_
    refine r_out (by kernel_rfl) ?_
    replace H := Option.some.inj H
    subst H
    exact go_return (.bool false) Tryd.func4 (by kernel_rfl) ⟨rfl, hI.pick [] (by decide) rfl⟩
  · refine go_else' (t := !y10) (by kernel_rfl) hc12 ?_
    refine go_skip ?_
    refine go_seq ?_
    refine r_in ?_
    refine o_batch 0 [(b3, 0, [.int .i64 a0.N, .slice A0z0 a0.Edges.length c0z0])] [.l 0 0] [(16, .agg #[.int .i64 a0.N, .slice A0z0 a0.Edges.length c0z0])] [] ⟨(hI.grp 0 rfl), trivial⟩ trivial (by kernel_rfl) (by kernel_rfl) (by kernel_rfl) ?_
    replace H := bind_some H
    obtain ⟨y18, hy19, H⟩ := H
    refine o_eff 1 _ rfl (by kernel_rfl) ?_
    refine e_callf _ _ _ 11 #[] #[] #[.agg #[.int .i64 a0.N, .slice A0z0 a0.Edges.length c0z0]] #[.agg #[.int .i64 a0.N, .slice A0z0 a0.Edges.length c0z0]] rfl (by kernel_rfl) (by kernel_rfl) (by kernel_rfl) (enter11 _) (assizeref06zCopy_calls a0 A0z0 c0z0 (memOf _) _ (Inv.start _) (hI.rd hr0z0) hl0z0 _ hy19) ?_
    rintro _ _ ⟨A20, c21, rfl, hI'⟩
    replace hI := hI.call0 hI'
    clear hI'
    refine ⟨_, rfl, ?_⟩
    refine o_eff 2 _ rfl (by kernel_rfl) ?_
    refine e_alloc 24 (.agg #[.int .i64 0, .slice none 0 0]) [.int .i64 0, .slice none 0 0] rfl (by kernel_rfl) rfl hI ?_
    clear hI
    intro b22 _ hI
    refine o_eff 3 _ rfl (by kernel_rfl) ?_
    refine e_store 24 _ _ 3 b22 24 [.int .i64 0, .slice none 0 0] [.int .i64 y18.N, .slice A20 y18.Edges.length c21] 0 (.agg #[.int .i64 y18.N, .slice A20 y18.Edges.length c21]) rfl (by kernel_rfl) (by kernel_rfl) (by kernel_rfl) (by kernel_rfl) hI rfl (by kernel_rfl) (by kernel_rfl) ?_
    clear hI
    intro _ hI
    refine r_out (by kernel_rfl) ?_
    refine go_seq ?_
    refine r_in ?_
    refine o_batch 0 [(b22, 0, [.int .i64 y18.N, .slice A20 y18.Edges.length c21]), (b4, 0, [.int .i64 a1.From, .int .i64 a1.To, .int .i64 a1.Kind, .int .i64 a1.Key])] [.p, .l 0 1, .l 1 0] [(18, .pointer (some ⟨b22, 1, none⟩)), (19, .slice A20 y18.Edges.length c21), (20, .agg #[.int .i64 a1.From, .int .i64 a1.To, .int .i64 a1.Kind, .int .i64 a1.Key])] [] ⟨(hI.grp 3 rfl), (hI.grp 1 rfl), trivial⟩ trivial (by kernel_rfl) (by kernel_rfl) (by kernel_rfl) ?_
    refine o_eff 3 _ rfl (by kernel_rfl) ?_
    refine e_parts 22 40 1 _ _ _ #[.int .i64 a1.From, .int .i64 a1.To, .int .i64 a1.Kind, .int .i64 a1.Key] [.int .i64 a1.From, .int .i64 a1.To, .int .i64 a1.Kind, .int .i64 a1.Key] rfl rfl rfl rfl (by kernel_rfl) (by kernel_rfl) (by kernel_rfl) (by kernel_rfl) hI ?_
    clear hI
    intro b27 _ hI
    replace H := must_some H
    obtain ⟨g28, H⟩ := H
    refine o_eff 4 _ rfl (by kernel_rfl) ?_
    refine e_append kEdge 22 0 40 _ _ _ _ A20 y18.Edges.length c21 y18.Edges ([a1] : List Edge) b27 0 1 1 [.int .i64 a1.From, .int .i64 a1.To, .int .i64 a1.Kind, .int .i64 a1.Key] 2 [] [0, 1, 3, 4] [] [.blk b3 24 [.int .i64 a0.N, .slice A0z0 a0.Edges.length c0z0], .blk b4 40 [.int .i64 a1.From, .int .i64 a1.To, .int .i64 a1.Kind, .int .i64 a1.Key], .blk b22 24 [.int .i64 y18.N, .slice A20 y18.Edges.length c21], .blk b27 40 [.int .i64 a1.From, .int .i64 a1.To, .int .i64 a1.Kind, .int .i64 a1.Key]] rfl (by kernel_rfl) (by kernel_rfl) rfl rfl rfl rfl rfl (by kernel_rfl) hI (by decide) rfl rfl rfl (hI.grp 4 rfl) g28 (mks_cons (mk_flat (k := kEdge) a1 [.int .i64 a1.From, .int .i64 a1.To, .int .i64 a1.Kind, .int .i64 a1.Key] rfl) mks_nil) ?_
    clear hI
    intro A29 c30 _ hI
    replace hI := hI.pick (L' := [.row kEdge 40 A29 ((y18.Edges ++ ([a1] : List Edge)).length) c30 (y18.Edges ++ ([a1] : List Edge)), .blk b3 24 [.int .i64 a0.N, .slice A0z0 a0.Edges.length c0z0], .blk b4 40 [.int .i64 a1.From, .int .i64 a1.To, .int .i64 a1.Kind, .int .i64 a1.Key], .blk b22 24 [.int .i64 y18.N, .slice A20 y18.Edges.length c21]]) [0, 1, 2, 3] (by decide) rfl
    refine o_batch 5 [] [.p] [(23, .pointer (some ⟨b22, 1, none⟩))] [] trivial trivial (by kernel_rfl) (by kernel_rfl) (by kernel_rfl) ?_
    refine o_eff 6 _ rfl (by kernel_rfl) ?_
    refine e_store 22 _ _ 3 b22 24 [.int .i64 y18.N, .slice A20 y18.Edges.length c21] [.int .i64 y18.N, .slice A29 ((y18.Edges ++ ([a1] : List Edge)).length) c30] 1 (.slice A29 ((y18.Edges ++ ([a1] : List Edge)).length) c30) rfl (by kernel_rfl) (by kernel_rfl) (by kernel_rfl) (by kernel_rfl) hI rfl (by kernel_rfl) (by kernel_rfl) ?_
    clear hI
    intro _ hI
    refine r_out (by kernel_rfl) ?_
    refine go_seq ?_
    refine r_in ?_
    refine o_batch 0 [(b3, 0, [.int .i64 a0.N, .slice A0z0 a0.Edges.length c0z0])] [.l 0 0, .p] [(25, .agg #[.int .i64 a0.N, .slice A0z0 a0.Edges.length c0z0]), (26, .int .i64 a2)] [] ⟨(hI.grp 1 rfl), trivial⟩ trivial (by kernel_rfl) (by kernel_rfl) (by kernel_rfl) ?_
    replace H := bind_some H
    obtain ⟨y35, hy36, H⟩ := H
    refine o_eff 2 _ rfl (by kernel_rfl) ?_
    refine e_callf _ _ _ 14 #[] #[] #[.agg #[.int .i64 a0.N, .slice A0z0 a0.Edges.length c0z0], .int .i64 a2] #[.agg #[.int .i64 a0.N, .slice A0z0 a0.Edges.length c0z0], .int .i64 a2] rfl (by kernel_rfl) (by kernel_rfl) (by kernel_rfl) (enter14 _) (graph_Closure_calls a0 A0z0 c0z0 a2 (memOf _) _ (Inv.start _) (hI.rd hT) (hI.rd hr0z0) hl0z0 _ hy36) ?_
    rintro _ _ ⟨A37, c38, rfl, hI'⟩
    replace hI := hI.call0 hI'
    clear hI'
    refine ⟨_, rfl, ?_⟩
    refine o_batch 3 [] [.p, .p, .p, .p, .p] [(24, .tuple #[.slice A37 y35.1.length c38, .int .i64 y35.2]), (28, .slice A37 y35.1.length c38), (29, .int .i64 y35.2), (8, .slice A37 y35.1.length c38), (9, .int .i64 y35.2)] [] trivial trivial (by kernel_rfl) (by kernel_rfl) (by kernel_rfl) ?_
    refine r_out (by kernel_rfl) ?_
    refine go_seq ?_
    refine r_in ?_
    refine o_batch 0 [(b22, 0, [.int .i64 y18.N, .slice A29 ((y18.Edges ++ ([a1] : List Edge)).length) c30])] [.l 0 0, .p] [(31, .agg #[.int .i64 y18.N, .slice A29 ((y18.Edges ++ ([a1] : List Edge)).length) c30]), (32, .int .i64 a2)] [] ⟨(hI.grp 3 rfl), trivial⟩ trivial (by kernel_rfl) (by kernel_rfl) (by kernel_rfl) ?_
    replace H := bind_some H
    obtain ⟨y43, hy44, H⟩ := H
    refine o_eff 2 _ rfl (by kernel_rfl) ?_
    refine e_callf _ _ _ 14 #[] #[] #[.agg #[.int .i64 y18.N, .slice A29 ((y18.Edges ++ ([a1] : List Edge)).length) c30], .int .i64 a2] #[.agg #[.int .i64 y18.N, .slice A29 ((y18.Edges ++ ([a1] : List Edge)).length) c30], .int .i64 a2] rfl (by kernel_rfl) (by kernel_rfl) (by kernel_rfl) (enter14 _) (graph_Closure_calls (⟨y18.N, y18.Edges ++ ([a1] : List Edge)⟩ : Graph) A29 c30 a2 (memOf _) _ (Inv.start _) (hI.rd hT) (hI.row 0 rfl) (hI.rowle 0 rfl) _ hy44) ?_
    rintro _ _ ⟨A45, c46, rfl, hI'⟩
    replace hI := hI.call0 hI'
    clear hI'
    refine ⟨_, rfl, ?_⟩
    refine o_batch 3 [] [.p, .p, .p, .p, .p] [(30, .tuple #[.slice A45 y43.1.length c46, .int .i64 y43.2]), (34, .slice A45 y43.1.length c46), (35, .int .i64 y43.2), (10, .slice A45 y43.1.length c46), (11, .int .i64 y43.2)] [] trivial trivial (by kernel_rfl) (by kernel_rfl) (by kernel_rfl) ?_
    refine r_out (by kernel_rfl) ?_
    refine go_seq ?_
    refine go_seq_join (o := r) (fun b54 f w => ∃ (j : Nat → Value), f = updL j [(2, .int .i64 a2), (3, .pointer (some ⟨b3, 0, none⟩)), (4, .pointer (some ⟨b4, 0, none⟩)), (8, .slice A37 y35.1.length c38), (9, .int .i64 y35.2), (10, .slice A45 y43.1.length c46), (11, .int .i64 y43.2), (41, .bool b54)] ∧ Inv M w [.blk b3 24 [.int .i64 a0.N, .slice A0z0 a0.Edges.length c0z0], .blk b4 40 [.int .i64 a1.From, .int .i64 a1.To, .int .i64 a1.Kind, .int .i64 a1.Key], .row (tSlice 4 tBool) 27 A37 y35.1.length c38 y35.1, .row (tSlice 4 tBool) 27 A45 y43.1.length c46 y43.1]) (fun b54 => assizelaw06zGraphMore.j1 a0 a1 a2 y35 y43 b54) ?_ (fun hJ55 => ?_)
    · clear H hI
      rintro b54 _ _ ⟨_, rfl, hI⟩ H
      replace H := cond_some H
      rcases H with ⟨hc56, H⟩ | ⟨hc56, H⟩
      · refine go_then' (t := b54) (by kernel_rfl) hc56 ?_
        refine go_seq ?_
        refine r_in ?_
        replace H := cond_some H
        rcases H with ⟨hc59, H⟩ | ⟨hc59, H⟩
        · refine o_batch 0 [] [.p, .p, .c true, .p, .p, .p, .p, .p, .p, .p, .p, .p, .p] [(42, .int .i64 y35.2), (43, .bool (y35.2 == 0)), (44, .bool true), (45, undef), (46, undef), (47, .bool true), (48, .bool true), (49, undef), (50, undef), (51, undef), (52, undef), (53, .bool true), (6, .bool true)] [((bif (y35.2 == 0) == true then 0 else -1), 1)] trivial ⟨(bndEq hc59), trivial⟩ (by kernel_rfl) (by kernel_rfl) (by kernel_rfl) ?_
          refine r_out (by kernel_rfl) ?_
          replace H := Option.some.inj H
          subst H
          exact go_return (.bool true) Tryd.func4 (by kernel_rfl) ⟨rfl, hI.pick [] (by decide) rfl⟩
        · replace H := cond_some H
          rcases H with ⟨hc60, H⟩ | ⟨hc60, H⟩
          · refine o_batch 0 [] [.p, .p, .c false, .p, .p, .p, .c true, .p, .p, .p, .p, .p, .p] [(42, .int .i64 y35.2), (43, .bool (y35.2 == 0)), (44, .bool false), (45, .int .i64 y43.2), (46, .bool (y43.2 != 0)), (47, .bool (y43.2 != 0)), (48, .bool true), (49, undef), (50, undef), (51, undef), (52, undef), (53, .bool true), (6, .bool true)] [((bif (y35.2 == 0) == false then 0 else -1), 1), ((bif (y43.2 != 0) == true then 0 else -1), 1)] trivial ⟨(bndEq hc59), (bndEq hc60), trivial⟩ (by kernel_rfl) (by kernel_rfl) (by kernel_rfl) ?_
            refine r_out (by kernel_rfl) ?_
            replace H := Option.some.inj H
            subst H
            exact go_return (.bool true) Tryd.func4 (by kernel_rfl) ⟨rfl, hI.pick [] (by decide) rfl⟩
          · refine o_batch 0 [(b3, 0, [.int .i64 a0.N, .slice A0z0 a0.Edges.length c0z0])] [.p, .p, .c false, .p, .p, .p, .c false, .p, .l 0 1, .p, .p, .p, .p] [(42, .int .i64 y35.2), (43, .bool (y35.2 == 0)), (44, .bool false), (45, .int .i64 y43.2), (46, .bool (y43.2 != 0)), (47, .bool (y43.2 != 0)), (48, .bool false), (49, .pointer (some ⟨b3, 1, none⟩)), (50, .slice A0z0 a0.Edges.length c0z0), (51, .int .i64 (a0.Edges.length : Int)), (52, .bool ((a0.Edges.length : Int) == 262144)), (53, .bool ((a0.Edges.length : Int) == 262144)), (6, .bool ((a0.Edges.length : Int) == 262144))] [((bif (y35.2 == 0) == false then 0 else -1), 1), ((bif (y43.2 != 0) == false then 0 else -1), 1)] ⟨(hI.grp 0 rfl), trivial⟩ ⟨(bndEq hc59), (bndEq hc60), trivial⟩ (by kernel_rfl) (by kernel_rfl) (by kernel_rfl) ?_
            refine r_out (by kernel_rfl) ?_
            replace H := Option.some.inj H
            subst H
            exact go_return (.bool ((a0.Edges.length : Int) == 262144)) Tryd.func4 (by kernel_rfl) ⟨rfl, hI.pick [] (by decide) rfl⟩
      · refine go_else' (t := b54) (by kernel_rfl) hc56 ?_
        refine go_skip ?_
        refine go_seq ?_
        refine go_seq ?_
        refine r_in ?_
        refine o_batch 0 [] [.p, .p, .p, .p, .p] [(54, .slice A37 y35.1.length c38), (55, .int .i64 (y35.1.length : Int)), (56, .slice A45 y43.1.length c46), (57, .int .i64 (y43.1.length : Int)), (58, .bool ((y35.1.length : Int) != (y43.1.length : Int)))] [] trivial trivial (by kernel_rfl) (by kernel_rfl) (by kernel_rfl) ?_
        refine r_out (by kernel_rfl) ?_
        replace H := cond_some H
        rcases H with ⟨hc62, H⟩ | ⟨hc62, H⟩
        · refine go_then' (t := ((y35.1.length : Int) != (y43.1.length : Int))) (by kernel_rfl) hc62 ?_
          refine go_seq ?_
          refine r_in ?_
          refine o_batch 0 [] [.p] [(6, .bool false)] [] trivial trivial (by kernel_rfl) (by kernel_rfl) (by kernel_rfl) ?_
          refine r_out (by kernel_rfl) ?_
          replace H := Option.some.inj H
          subst H
          exact go_return (.bool false) Tryd.func4 (by kernel_rfl) ⟨rfl, hI.pick [] (by decide) rfl⟩
        · refine go_else' (t := ((y35.1.length : Int) != (y43.1.length : Int))) (by kernel_rfl) hc62 ?_
          refine go_skip ?_
          refine go_seq ?_
          refine go_seq ?_
          refine r_in ?_
          refine o_batch 0 [] [.p] [(12, .int .i64 0)] [] trivial trivial (by kernel_rfl) (by kernel_rfl) (by kernel_rfl) ?_
          refine r_out (by kernel_rfl) ?_
          refine go_block ?_
          refine go_iter (assizelaw06zGraphMore.s2 a1 a2 y35 y43) (fun x1992 f w => ∃ (j : Nat → Value), f = updL j [(2, .int .i64 a2), (4, .pointer (some ⟨b4, 0, none⟩)), (8, .slice A37 y35.1.length c38), (10, .slice A45 y43.1.length c46), (12, .int .i64 x1992)] ∧ Inv M w [.blk b4 40 [.int .i64 a1.From, .int .i64 a1.To, .int .i64 a1.Kind, .int .i64 a1.Key], .row (tSlice 4 tBool) 27 A37 y35.1.length c38 y35.1, .row (tSlice 4 tBool) 27 A45 y43.1.length c46 y43.1]) H ⟨_, at_slots _ (by kernel_rfl), hI.pick [1, 2, 3] (by decide) rfl⟩ ?_
          clear H hI
          rintro x1992 _ _ o1 H ⟨_, rfl, hI⟩ hin1 hout1
          refine go_seq ?_
          refine go_seq ?_
          refine r_in ?_
          refine o_batch 0 [] [.p, .p, .p, .p] [(59, .int .i64 x1992), (60, .slice A37 y35.1.length c38), (61, .int .i64 (y35.1.length : Int)), (62, .bool (decide (x1992 < (y35.1.length : Int))))] [] trivial trivial (by kernel_rfl) (by kernel_rfl) (by kernel_rfl) ?_
          refine r_out (by kernel_rfl) ?_
          replace H := cond_some H
          rcases H with ⟨hc1994, H⟩ | ⟨hc1994, H⟩
          · refine go_then' (t := decide (x1992 < (y35.1.length : Int))) (by kernel_rfl) hc1994 ?_
            refine go_skip ?_
            refine go_seq ?_
            refine go_block ?_
            refine go_seq ?_
            refine go_seq ?_
            replace H := must_some H
            obtain ⟨g2508, H⟩ := H
            obtain ⟨b2509, rfl⟩ := hI.rowAt 1 rfl g2508
            obtain ⟨cs2512, hk2511, hg2510⟩ := rdS.look (hI.row 1 rfl) (hI.rowlen 1 rfl) g2508
            obtain ⟨A2513, c2514, rfl, hl2516, hr2515⟩ := hk2511
            replace H := must_some H
            obtain ⟨g2517, H⟩ := H
            obtain ⟨b2518, rfl⟩ := hI.rowAt 2 rfl g2517
            obtain ⟨cs2521, hk2520, hg2519⟩ := rdS.look (hI.row 2 rfl) (hI.rowlen 2 rfl) g2517
            obtain ⟨A2522, c2523, rfl, hl2525, hr2524⟩ := hk2520
            refine d_still [(b2509, 0 + x1992.toNat * 1, [.slice A2513 ((idx y35.1 x1992).length) c2514]), (b2518, 0 + x1992.toNat * 1, [.slice A2522 ((idx y43.1 x1992).length) c2523])] [.p, .p, .x, .l 0 0, .p, .p, .p, .x, .l 1 0, .p, .p] [(65, .slice (some ⟨b2509, 0, none⟩) y35.1.length c38), (66, .int .i64 x1992), (67, .pointer (some ⟨b2509, 0 + x1992.toNat * 1, none⟩)), (68, .slice A2513 ((idx y35.1 x1992).length) c2514), (69, .int .i64 ((idx y35.1 x1992).length : Int)), (70, .slice (some ⟨b2518, 0, none⟩) y43.1.length c46), (71, .int .i64 x1992), (72, .pointer (some ⟨b2518, 0 + x1992.toNat * 1, none⟩)), (73, .slice A2522 ((idx y43.1 x1992).length) c2523), (74, .int .i64 ((idx y43.1 x1992).length : Int)), (75, .bool (((idx y35.1 x1992).length : Int) != ((idx y43.1 x1992).length : Int)))] [(x1992, y35.1.length), (x1992, y43.1.length)] (by kernel_rfl) (by kernel_rfl) rfl ⟨hg2510.ok, hg2519.ok, trivial⟩ ⟨g2508, g2517, trivial⟩ (by kernel_rfl) (by kernel_rfl) (by kernel_rfl) hI ?_
            clear hI
            intro _ hI
            replace H := cond_some H
            rcases H with ⟨hc2526, H⟩ | ⟨hc2526, H⟩
            · refine go_then' (t := (((idx y35.1 x1992).length : Int) != ((idx y43.1 x1992).length : Int))) (by kernel_rfl) hc2526 ?_
              refine go_seq ?_
              refine r_in ?_
              refine o_batch 0 [] [.p] [(6, .bool false)] [] trivial trivial (by kernel_rfl) (by kernel_rfl) (by kernel_rfl) ?_
              refine r_out (by kernel_rfl) ?_
              replace H := out_some H
              obtain ⟨_, H, he1⟩ := H
              have he := (hout1 _ he1).symm
              subst he
              replace H := Option.some.inj H
              subst H
              exact go_return (.bool false) Tryd.func4 (by kernel_rfl) ⟨rfl, hI.pick [] (by decide) rfl⟩
            · refine go_else' (t := (((idx y35.1 x1992).length : Int) != ((idx y43.1 x1992).length : Int))) (by kernel_rfl) hc2526 ?_
              refine go_skip ?_
              refine go_seq ?_
              refine r_in ?_
              refine o_batch 0 [] [.p] [(13, .int .i64 0)] [] trivial trivial (by kernel_rfl) (by kernel_rfl) (by kernel_rfl) ?_
              refine r_out (by kernel_rfl) ?_
              refine go_block ?_
              refine go_iter (assizelaw06zGraphMore.s3 a1 a2 y35 y43 x1992) (fun x2893 f w => ∃ (j : Nat → Value), f = updL j [(2, .int .i64 a2), (4, .pointer (some ⟨b4, 0, none⟩)), (8, .slice (some ⟨b2509, 0, none⟩) y35.1.length c38), (10, .slice (some ⟨b2518, 0, none⟩) y43.1.length c46), (12, .int .i64 x1992), (13, .int .i64 x2893)] ∧ Inv M w [.blk b4 40 [.int .i64 a1.From, .int .i64 a1.To, .int .i64 a1.Kind, .int .i64 a1.Key], .row (tSlice 4 tBool) 27 (some ⟨b2509, 0, none⟩) y35.1.length c38 y35.1, .row (tSlice 4 tBool) 27 (some ⟨b2518, 0, none⟩) y43.1.length c46 y43.1]) H ⟨_, at_slots _ (by kernel_rfl), hI⟩ ?_
              clear H hI
              rintro x2893 _ _ o2 H ⟨_, rfl, hI⟩ hin2 hout2
              refine go_seq ?_
              refine go_seq ?_
              refine r_in ?_
              obtain ⟨cs2911, hk2910, hg2909⟩ := rdS.look (hI.row 1 rfl) (hI.rowlen 1 rfl) g2508
              obtain ⟨A2912, c2913, rfl, hl2915, hr2914⟩ := hk2910
              refine o_batch 0 [(b2509, 0 + x1992.toNat * 1, [.slice A2912 ((idx y35.1 x1992).length) c2913])] [.p, .p, .p, .x, .l 0 0, .p, .p] [(76, .int .i64 x2893), (77, .slice (some ⟨b2509, 0, none⟩) y35.1.length c38), (78, .int .i64 x1992), (79, .pointer (some ⟨b2509, 0 + x1992.toNat * 1, none⟩)), (80, .slice A2912 ((idx y35.1 x1992).length) c2913), (81, .int .i64 ((idx y35.1 x1992).length : Int)), (82, .bool (decide (x2893 < ((idx y35.1 x1992).length : Int))))] [(x1992, y35.1.length)] ⟨hg2909.ok, trivial⟩ ⟨g2508, trivial⟩ (by kernel_rfl) (by kernel_rfl) (by kernel_rfl) ?_
              refine r_out (by kernel_rfl) ?_
              replace H := cond_some H
              rcases H with ⟨hc2916, H⟩ | ⟨hc2916, H⟩
              · refine go_then' (t := decide (x2893 < ((idx y35.1 x1992).length : Int))) (by kernel_rfl) hc2916 ?_
                refine go_skip ?_
                refine go_seq ?_
                refine go_block ?_
                refine go_seq_join (o := o2) (fun b3104 f w => ∃ (j : Nat → Value), f = updL j [(2, .int .i64 a2), (4, .pointer (some ⟨b4, 0, none⟩)), (8, .slice (some ⟨b2509, 0, none⟩) y35.1.length c38), (10, .slice (some ⟨b2518, 0, none⟩) y43.1.length c46), (12, .int .i64 x1992), (13, .int .i64 x2893), (125, .bool b3104)] ∧ Inv M w [.blk b4 40 [.int .i64 a1.From, .int .i64 a1.To, .int .i64 a1.Kind, .int .i64 a1.Key], .row (tSlice 4 tBool) 27 (some ⟨b2509, 0, none⟩) y35.1.length c38 y35.1, .row (tSlice 4 tBool) 27 (some ⟨b2518, 0, none⟩) y43.1.length c46 y43.1]) (fun b3104 => assizelaw06zGraphMore.j4 x2893 b3104) ?_ (fun hJ3105 => ?_)
                · clear H hI
                  rintro b3104 _ _ ⟨_, rfl, hI⟩ H
                  replace H := cond_some H
                  rcases H with ⟨hc3106, H⟩ | ⟨hc3106, H⟩
                  · refine go_then' (t := b3104) (by kernel_rfl) hc3106 ?_
                    refine go_seq ?_
                    refine r_in ?_
                    refine o_batch 0 [] [.p] [(6, .bool false)] [] trivial trivial (by kernel_rfl) (by kernel_rfl) (by kernel_rfl) ?_
                    refine r_out (by kernel_rfl) ?_
                    replace H := out_some H
                    obtain ⟨_, H, he2⟩ := H
                    have he := (hout2 _ he2).symm
                    subst he
                    replace H := out_some H
                    obtain ⟨_, H, he1⟩ := H
                    have he := (hout1 _ he1).symm
                    subst he
                    replace H := Option.some.inj H
                    subst H
                    exact go_return (.bool false) Tryd.func4 (by kernel_rfl) ⟨rfl, hI.pick [] (by decide) rfl⟩
                  · refine go_else' (t := b3104) (by kernel_rfl) hc3106 ?_
                    refine go_skip ?_
                    refine go_inBlock ?_
                    refine r_in ?_
                    refine o_batch 0 [] [.p, .p, .p] [(83, .int .i64 x2893), (84, .int .i64 (w64 (x2893 + 1))), (13, .int .i64 (w64 (x2893 + 1)))] [] trivial trivial (by kernel_rfl) (by kernel_rfl) (by kernel_rfl) ?_
                    refine r_out (by kernel_rfl) ?_
                    exact hin2 _ (Option.some.inj H).symm _ _ ⟨_, at_slots _ (by kernel_rfl), hI⟩
                · obtain ⟨cs3109, hk3108, hg3107⟩ := rdS.look (hI.row 1 rfl) (hI.rowlen 1 rfl) g2508
                  obtain ⟨A3110, c3111, rfl, hl3113, hr3112⟩ := hk3108
                  replace H := must_some H
                  obtain ⟨g3114, H⟩ := H
                  obtain ⟨b3115, q3116, rfl, _⟩ := rdS.fopen hr3112 rfl g3114
                  replace H := cond_some H
                  rcases H with ⟨hc3117, H⟩ | ⟨hc3117, H⟩
                  · obtain ⟨cs3120, hk3119, hg3118⟩ := rdS.look (hI.row 2 rfl) (hI.rowlen 2 rfl) g2517
                    obtain ⟨A3121, c3122, rfl, hl3124, hr3123⟩ := hk3119
                    replace H := must_some H
                    obtain ⟨g3125, H⟩ := H
                    obtain ⟨b3126, q3127, rfl, _⟩ := rdS.fopen hr3123 rfl g3125
                    replace H := cond_some H
                    rcases H with ⟨hc3128, H⟩ | ⟨hc3128, H⟩
                    · refine d_still [(b2509, 0 + x1992.toNat * 1, [.slice (some ⟨b3115, q3116, none⟩) ((idx y35.1 x1992).length) c3111]), (b3115, q3116 + x2893.toNat * 1, [.bool (idx (idx y35.1 x1992) x2893)]), (b2518, 0 + x1992.toNat * 1, [.slice (some ⟨b3126, q3127, none⟩) ((idx y43.1 x1992).length) c3122]), (b3126, q3127 + x2893.toNat * 1, [.bool (idx (idx y43.1 x1992) x2893)])] [.p, .p, .x, .l 0 0, .p, .x, .l 1 0, .c true, .p, .p, .x, .l 2 0, .p, .x, .l 3 0, .p, .p, .c true, .p, .p, .p, .p, .p, .p, .p, .p, .p, .p, .p, .p, .p, .p, .p, .p, .p, .p, .p, .p, .p, .p, .p] [(85, .slice (some ⟨b2509, 0, none⟩) y35.1.length c38), (86, .int .i64 x1992), (87, .pointer (some ⟨b2509, 0 + x1992.toNat * 1, none⟩)), (88, .slice (some ⟨b3115, q3116, none⟩) ((idx y35.1 x1992).length) c3111), (89, .int .i64 x2893), (90, .pointer (some ⟨b3115, q3116 + x2893.toNat * 1, none⟩)), (91, .bool (idx (idx y35.1 x1992) x2893)), (92, .bool true), (93, .slice (some ⟨b2518, 0, none⟩) y43.1.length c46), (94, .int .i64 x1992), (95, .pointer (some ⟨b2518, 0 + x1992.toNat * 1, none⟩)), (96, .slice (some ⟨b3126, q3127, none⟩) ((idx y43.1 x1992).length) c3122), (97, .int .i64 x2893), (98, .pointer (some ⟨b3126, q3127 + x2893.toNat * 1, none⟩)), (99, .bool (idx (idx y43.1 x1992) x2893)), (100, .bool (!(idx (idx y43.1 x1992) x2893))), (101, .bool (!(idx (idx y43.1 x1992) x2893))), (102, .bool true), (103, undef), (104, undef), (105, undef), (106, undef), (107, undef), (108, undef), (109, undef), (110, undef), (111, undef), (112, undef), (113, undef), (114, undef), (115, undef), (116, undef), (117, undef), (118, undef), (119, undef), (120, undef), (121, undef), (122, undef), (123, undef), (124, undef), (125, .bool true)] [(x1992, y35.1.length), (x2893, (idx y35.1 x1992).length), ((bif (idx (idx y35.1 x1992) x2893) == true then 0 else -1), 1), (x1992, y43.1.length), (x2893, (idx y43.1 x1992).length), ((bif (!(idx (idx y43.1 x1992) x2893)) == true then 0 else -1), 1)] (by kernel_rfl) (by kernel_rfl) rfl ⟨hg3107.ok, (rdS.flook hr3112 rfl g3114).ok, hg3118.ok, (rdS.flook hr3123 rfl g3125).ok, trivial⟩ ⟨g2508, g3114, (bndEq hc3117), g2517, g3125, (bndEq hc3128), trivial⟩ (by kernel_rfl) (by kernel_rfl) (by kernel_rfl) hI ?_
                      clear hI
                      intro _ hI
                      exact hJ3105 true _ _ ⟨_, at_slots _ (by kernel_rfl), hI⟩ H
                    · replace H := cond_some H
                      rcases H with ⟨hc3129, H⟩ | ⟨hc3129, H⟩
                      · obtain ⟨cs3132, hk3131, hg3130⟩ := rdS.look (hI.row 1 rfl) (hI.rowlen 1 rfl) g2508
                        obtain ⟨A3133, c3134, rfl, hl3136, hr3135⟩ := hk3131
                        obtain ⟨b3137, q3138, rfl, _⟩ := rdS.fopen hr3135 rfl g3114
                        obtain ⟨cs3141, hk3140, hg3139⟩ := rdS.look (hI.row 2 rfl) (hI.rowlen 2 rfl) g2517
                        obtain ⟨A3142, c3143, rfl, hl3145, hr3144⟩ := hk3140
                        obtain ⟨b3146, q3147, rfl, _⟩ := rdS.fopen hr3144 rfl g3125
                        refine d_still [(b2509, 0 + x1992.toNat * 1, [.slice (some ⟨b3115, q3116, none⟩) ((idx y35.1 x1992).length) c3111]), (b3115, q3116 + x2893.toNat * 1, [.bool (idx (idx y35.1 x1992) x2893)]), (b2518, 0 + x1992.toNat * 1, [.slice (some ⟨b3126, q3127, none⟩) ((idx y43.1 x1992).length) c3122]), (b3126, q3127 + x2893.toNat * 1, [.bool (idx (idx y43.1 x1992) x2893)]), (b4, 0, [.int .i64 a1.From, .int .i64 a1.To, .int .i64 a1.Kind, .int .i64 a1.Key]), (b2509, 0 + x1992.toNat * 1, [.slice (some ⟨b3137, q3138, none⟩) ((idx y35.1 x1992).length) c3134]), (b3137, q3138 + x2893.toNat * 1, [.bool (idx (idx y35.1 x1992) x2893)]), (b2518, 0 + x1992.toNat * 1, [.slice (some ⟨b3146, q3147, none⟩) ((idx y43.1 x1992).length) c3143]), (b3146, q3147 + x2893.toNat * 1, [.bool (idx (idx y43.1 x1992) x2893)])] [.p, .p, .x, .l 0 0, .p, .x, .l 1 0, .c true, .p, .p, .x, .l 2 0, .p, .x, .l 3 0, .p, .p, .c false, .p, .l 4 2, .p, .p, .p, .c true, .p, .p, .x, .l 5 0, .p, .x, .l 6 0, .p, .p, .x, .l 7 0, .p, .x, .l 8 0, .p, .p, .p] [(85, .slice (some ⟨b2509, 0, none⟩) y35.1.length c38), (86, .int .i64 x1992), (87, .pointer (some ⟨b2509, 0 + x1992.toNat * 1, none⟩)), (88, .slice (some ⟨b3115, q3116, none⟩) ((idx y35.1 x1992).length) c3111), (89, .int .i64 x2893), (90, .pointer (some ⟨b3115, q3116 + x2893.toNat * 1, none⟩)), (91, .bool (idx (idx y35.1 x1992) x2893)), (92, .bool true), (93, .slice (some ⟨b2518, 0, none⟩) y43.1.length c46), (94, .int .i64 x1992), (95, .pointer (some ⟨b2518, 0 + x1992.toNat * 1, none⟩)), (96, .slice (some ⟨b3126, q3127, none⟩) ((idx y43.1 x1992).length) c3122), (97, .int .i64 x2893), (98, .pointer (some ⟨b3126, q3127 + x2893.toNat * 1, none⟩)), (99, .bool (idx (idx y43.1 x1992) x2893)), (100, .bool (!(idx (idx y43.1 x1992) x2893))), (101, .bool (!(idx (idx y43.1 x1992) x2893))), (102, .bool false), (103, .pointer (some ⟨b4, 2, none⟩)), (104, .int .i64 a1.Kind), (105, .int .i64 a2), (106, .int .i64 (bAnd .i64 a1.Kind a2)), (107, .bool (bAnd .i64 a1.Kind a2 == 0)), (108, .bool true), (109, .slice (some ⟨b2509, 0, none⟩) y35.1.length c38), (110, .int .i64 x1992), (111, .pointer (some ⟨b2509, 0 + x1992.toNat * 1, none⟩)), (112, .slice (some ⟨b3137, q3138, none⟩) ((idx y35.1 x1992).length) c3134), (113, .int .i64 x2893), (114, .pointer (some ⟨b3137, q3138 + x2893.toNat * 1, none⟩)), (115, .bool (idx (idx y35.1 x1992) x2893)), (116, .slice (some ⟨b2518, 0, none⟩) y43.1.length c46), (117, .int .i64 x1992), (118, .pointer (some ⟨b2518, 0 + x1992.toNat * 1, none⟩)), (119, .slice (some ⟨b3146, q3147, none⟩) ((idx y43.1 x1992).length) c3143), (120, .int .i64 x2893), (121, .pointer (some ⟨b3146, q3147 + x2893.toNat * 1, none⟩)), (122, .bool (idx (idx y43.1 x1992) x2893)), (123, .bool (idx (idx y35.1 x1992) x2893 != idx (idx y43.1 x1992) x2893)), (124, .bool (idx (idx y35.1 x1992) x2893 != idx (idx y43.1 x1992) x2893)), (125, .bool (idx (idx y35.1 x1992) x2893 != idx (idx y43.1 x1992) x2893))] [(x1992, y35.1.length), (x2893, (idx y35.1 x1992).length), ((bif (idx (idx y35.1 x1992) x2893) == true then 0 else -1), 1), (x1992, y43.1.length), (x2893, (idx y43.1 x1992).length), ((bif (!(idx (idx y43.1 x1992) x2893)) == false then 0 else -1), 1), ((bif (bAnd .i64 a1.Kind a2 == 0) == true then 0 else -1), 1), (x1992, y35.1.length), (x2893, (idx y35.1 x1992).length), (x1992, y43.1.length), (x2893, (idx y43.1 x1992).length)] (by kernel_rfl) (by kernel_rfl) rfl ⟨hg3107.ok, (rdS.flook hr3112 rfl g3114).ok, hg3118.ok, (rdS.flook hr3123 rfl g3125).ok, (hI.grp 0 rfl), hg3130.ok, (rdS.flook hr3135 rfl g3114).ok, hg3139.ok, (rdS.flook hr3144 rfl g3125).ok, trivial⟩ ⟨g2508, g3114, (bndEq hc3117), g2517, g3125, (bndEq hc3128), (bndEq hc3129), g2508, g3114, g2517, g3125, trivial⟩ (by kernel_rfl) (by kernel_rfl) (by kernel_rfl) hI ?_
                        clear hI
                        intro _ hI
                        exact hJ3105 (idx (idx y35.1 x1992) x2893 != idx (idx y43.1 x1992) x2893) _ _ ⟨_, at_slots _ (by kernel_rfl), hI⟩ H
                      · refine d_still [(b2509, 0 + x1992.toNat * 1, [.slice (some ⟨b3115, q3116, none⟩) ((idx y35.1 x1992).length) c3111]), (b3115, q3116 + x2893.toNat * 1, [.bool (idx (idx y35.1 x1992) x2893)]), (b2518, 0 + x1992.toNat * 1, [.slice (some ⟨b3126, q3127, none⟩) ((idx y43.1 x1992).length) c3122]), (b3126, q3127 + x2893.toNat * 1, [.bool (idx (idx y43.1 x1992) x2893)]), (b4, 0, [.int .i64 a1.From, .int .i64 a1.To, .int .i64 a1.Kind, .int .i64 a1.Key])] [.p, .p, .x, .l 0 0, .p, .x, .l 1 0, .c true, .p, .p, .x, .l 2 0, .p, .x, .l 3 0, .p, .p, .c false, .p, .l 4 2, .p, .p, .p, .c false, .p, .p, .p, .p, .p, .p, .p, .p, .p, .p, .p, .p, .p, .p, .p, .p, .p] [(85, .slice (some ⟨b2509, 0, none⟩) y35.1.length c38), (86, .int .i64 x1992), (87, .pointer (some ⟨b2509, 0 + x1992.toNat * 1, none⟩)), (88, .slice (some ⟨b3115, q3116, none⟩) ((idx y35.1 x1992).length) c3111), (89, .int .i64 x2893), (90, .pointer (some ⟨b3115, q3116 + x2893.toNat * 1, none⟩)), (91, .bool (idx (idx y35.1 x1992) x2893)), (92, .bool true), (93, .slice (some ⟨b2518, 0, none⟩) y43.1.length c46), (94, .int .i64 x1992), (95, .pointer (some ⟨b2518, 0 + x1992.toNat * 1, none⟩)), (96, .slice (some ⟨b3126, q3127, none⟩) ((idx y43.1 x1992).length) c3122), (97, .int .i64 x2893), (98, .pointer (some ⟨b3126, q3127 + x2893.toNat * 1, none⟩)), (99, .bool (idx (idx y43.1 x1992) x2893)), (100, .bool (!(idx (idx y43.1 x1992) x2893))), (101, .bool (!(idx (idx y43.1 x1992) x2893))), (102, .bool false), (103, .pointer (some ⟨b4, 2, none⟩)), (104, .int .i64 a1.Kind), (105, .int .i64 a2), (106, .int .i64 (bAnd .i64 a1.Kind a2)), (107, .bool (bAnd .i64 a1.Kind a2 == 0)), (108, .bool false), (109, undef), (110, undef), (111, undef), (112, undef), (113, undef), (114, undef), (115, undef), (116, undef), (117, undef), (118, undef), (119, undef), (120, undef), (121, undef), (122, undef), (123, undef), (124, .bool false), (125, .bool false)] [(x1992, y35.1.length), (x2893, (idx y35.1 x1992).length), ((bif (idx (idx y35.1 x1992) x2893) == true then 0 else -1), 1), (x1992, y43.1.length), (x2893, (idx y43.1 x1992).length), ((bif (!(idx (idx y43.1 x1992) x2893)) == false then 0 else -1), 1), ((bif (bAnd .i64 a1.Kind a2 == 0) == false then 0 else -1), 1)] (by kernel_rfl) (by kernel_rfl) rfl ⟨hg3107.ok, (rdS.flook hr3112 rfl g3114).ok, hg3118.ok, (rdS.flook hr3123 rfl g3125).ok, (hI.grp 0 rfl), trivial⟩ ⟨g2508, g3114, (bndEq hc3117), g2517, g3125, (bndEq hc3128), (bndEq hc3129), trivial⟩ (by kernel_rfl) (by kernel_rfl) (by kernel_rfl) hI ?_
                        clear hI
                        intro _ hI
                        exact hJ3105 false _ _ ⟨_, at_slots _ (by kernel_rfl), hI⟩ H
                  · replace H := cond_some H
                    rcases H with ⟨hc3148, H⟩ | ⟨hc3148, H⟩
                    · obtain ⟨cs3151, hk3150, hg3149⟩ := rdS.look (hI.row 1 rfl) (hI.rowlen 1 rfl) g2508
                      obtain ⟨A3152, c3153, rfl, hl3155, hr3154⟩ := hk3150
                      obtain ⟨b3156, q3157, rfl, _⟩ := rdS.fopen hr3154 rfl g3114
                      obtain ⟨cs3160, hk3159, hg3158⟩ := rdS.look (hI.row 2 rfl) (hI.rowlen 2 rfl) g2517
                      obtain ⟨A3161, c3162, rfl, hl3164, hr3163⟩ := hk3159
                      replace H := must_some H
                      obtain ⟨g3165, H⟩ := H
                      obtain ⟨b3166, q3167, rfl, _⟩ := rdS.fopen hr3163 rfl g3165
                      refine d_still [(b2509, 0 + x1992.toNat * 1, [.slice (some ⟨b3115, q3116, none⟩) ((idx y35.1 x1992).length) c3111]), (b3115, q3116 + x2893.toNat * 1, [.bool (idx (idx y35.1 x1992) x2893)]), (b4, 0, [.int .i64 a1.From, .int .i64 a1.To, .int .i64 a1.Kind, .int .i64 a1.Key]), (b2509, 0 + x1992.toNat * 1, [.slice (some ⟨b3156, q3157, none⟩) ((idx y35.1 x1992).length) c3153]), (b3156, q3157 + x2893.toNat * 1, [.bool (idx (idx y35.1 x1992) x2893)]), (b2518, 0 + x1992.toNat * 1, [.slice (some ⟨b3166, q3167, none⟩) ((idx y43.1 x1992).length) c3162]), (b3166, q3167 + x2893.toNat * 1, [.bool (idx (idx y43.1 x1992) x2893)])] [.p, .p, .x, .l 0 0, .p, .x, .l 1 0, .c false, .p, .p, .p, .p, .p, .p, .p, .p, .p, .p, .p, .l 2 2, .p, .p, .p, .c true, .p, .p, .x, .l 3 0, .p, .x, .l 4 0, .p, .p, .x, .l 5 0, .p, .x, .l 6 0, .p, .p, .p] [(85, .slice (some ⟨b2509, 0, none⟩) y35.1.length c38), (86, .int .i64 x1992), (87, .pointer (some ⟨b2509, 0 + x1992.toNat * 1, none⟩)), (88, .slice (some ⟨b3115, q3116, none⟩) ((idx y35.1 x1992).length) c3111), (89, .int .i64 x2893), (90, .pointer (some ⟨b3115, q3116 + x2893.toNat * 1, none⟩)), (91, .bool (idx (idx y35.1 x1992) x2893)), (92, .bool false), (93, undef), (94, undef), (95, undef), (96, undef), (97, undef), (98, undef), (99, undef), (100, undef), (101, .bool false), (102, .bool false), (103, .pointer (some ⟨b4, 2, none⟩)), (104, .int .i64 a1.Kind), (105, .int .i64 a2), (106, .int .i64 (bAnd .i64 a1.Kind a2)), (107, .bool (bAnd .i64 a1.Kind a2 == 0)), (108, .bool true), (109, .slice (some ⟨b2509, 0, none⟩) y35.1.length c38), (110, .int .i64 x1992), (111, .pointer (some ⟨b2509, 0 + x1992.toNat * 1, none⟩)), (112, .slice (some ⟨b3156, q3157, none⟩) ((idx y35.1 x1992).length) c3153), (113, .int .i64 x2893), (114, .pointer (some ⟨b3156, q3157 + x2893.toNat * 1, none⟩)), (115, .bool (idx (idx y35.1 x1992) x2893)), (116, .slice (some ⟨b2518, 0, none⟩) y43.1.length c46), (117, .int .i64 x1992), (118, .pointer (some ⟨b2518, 0 + x1992.toNat * 1, none⟩)), (119, .slice (some ⟨b3166, q3167, none⟩) ((idx y43.1 x1992).length) c3162), (120, .int .i64 x2893), (121, .pointer (some ⟨b3166, q3167 + x2893.toNat * 1, none⟩)), (122, .bool (idx (idx y43.1 x1992) x2893)), (123, .bool (idx (idx y35.1 x1992) x2893 != idx (idx y43.1 x1992) x2893)), (124, .bool (idx (idx y35.1 x1992) x2893 != idx (idx y43.1 x1992) x2893)), (125, .bool (idx (idx y35.1 x1992) x2893 != idx (idx y43.1 x1992) x2893))] [(x1992, y35.1.length), (x2893, (idx y35.1 x1992).length), ((bif (idx (idx y35.1 x1992) x2893) == false then 0 else -1), 1), ((bif (bAnd .i64 a1.Kind a2 == 0) == true then 0 else -1), 1), (x1992, y35.1.length), (x2893, (idx y35.1 x1992).length), (x1992, y43.1.length), (x2893, (idx y43.1 x1992).length)] (by kernel_rfl) (by kernel_rfl) rfl ⟨hg3107.ok, (rdS.flook hr3112 rfl g3114).ok, (hI.grp 0 rfl), hg3149.ok, (rdS.flook hr3154 rfl g3114).ok, hg3158.ok, (rdS.flook hr3163 rfl g3165).ok, trivial⟩ ⟨g2508, g3114, (bndEq hc3117), (bndEq hc3148), g2508, g3114, g2517, g3165, trivial⟩ (by kernel_rfl) (by kernel_rfl) (by kernel_rfl) hI ?_
                      clear hI
                      intro _ hI
                      exact hJ3105 (idx (idx y35.1 x1992) x2893 != idx (idx y43.1 x1992) x2893) _ _ ⟨_, at_slots _ (by kernel_rfl), hI⟩ H
                    · refine d_still [(b2509, 0 + x1992.toNat * 1, [.slice (some ⟨b3115, q3116, none⟩) ((idx y35.1 x1992).length) c3111]), (b3115, q3116 + x2893.toNat * 1, [.bool (idx (idx y35.1 x1992) x2893)]), (b4, 0, [.int .i64 a1.From, .int .i64 a1.To, .int .i64 a1.Kind, .int .i64 a1.Key])] [.p, .p, .x, .l 0 0, .p, .x, .l 1 0, .c false, .p, .p, .p, .p, .p, .p, .p, .p, .p, .p, .p, .l 2 2, .p, .p, .p, .c false, .p, .p, .p, .p, .p, .p, .p, .p, .p, .p, .p, .p, .p, .p, .p, .p, .p] [(85, .slice (some ⟨b2509, 0, none⟩) y35.1.length c38), (86, .int .i64 x1992), (87, .pointer (some ⟨b2509, 0 + x1992.toNat * 1, none⟩)), (88, .slice (some ⟨b3115, q3116, none⟩) ((idx y35.1 x1992).length) c3111), (89, .int .i64 x2893), (90, .pointer (some ⟨b3115, q3116 + x2893.toNat * 1, none⟩)), (91, .bool (idx (idx y35.1 x1992) x2893)), (92, .bool false), (93, undef), (94, undef), (95, undef), (96, undef), (97, undef), (98, undef), (99, undef), (100, undef), (101, .bool false), (102, .bool false), (103, .pointer (some ⟨b4, 2, none⟩)), (104, .int .i64 a1.Kind), (105, .int .i64 a2), (106, .int .i64 (bAnd .i64 a1.Kind a2)), (107, .bool (bAnd .i64 a1.Kind a2 == 0)), (108, .bool false), (109, undef), (110, undef), (111, undef), (112, undef), (113, undef), (114, undef), (115, undef), (116, undef), (117, undef), (118, undef), (119, undef), (120, undef), (121, undef), (122, undef), (123, undef), (124, .bool false), (125, .bool false)] [(x1992, y35.1.length), (x2893, (idx y35.1 x1992).length), ((bif (idx (idx y35.1 x1992) x2893) == false then 0 else -1), 1), ((bif (bAnd .i64 a1.Kind a2 == 0) == false then 0 else -1), 1)] (by kernel_rfl) (by kernel_rfl) rfl ⟨hg3107.ok, (rdS.flook hr3112 rfl g3114).ok, (hI.grp 0 rfl), trivial⟩ ⟨g2508, g3114, (bndEq hc3117), (bndEq hc3148), trivial⟩ (by kernel_rfl) (by kernel_rfl) (by kernel_rfl) hI ?_
                      clear hI
                      intro _ hI
                      exact hJ3105 false _ _ ⟨_, at_slots _ (by kernel_rfl), hI⟩ H
              · refine go_else' (t := decide (x2893 < ((idx y35.1 x1992).length : Int))) (by kernel_rfl) hc2916 ?_
                refine go_exit rfl ?_
                refine go_inBlock ?_
                refine r_in ?_
                refine o_batch 0 [] [.p, .p, .p] [(63, .int .i64 x1992), (64, .int .i64 (w64 (x1992 + 1))), (12, .int .i64 (w64 (x1992 + 1)))] [] trivial trivial (by kernel_rfl) (by kernel_rfl) (by kernel_rfl) ?_
                refine r_out (by kernel_rfl) ?_
                replace H := out_some H
                obtain ⟨_, H, he2⟩ := H
                have he := (hout2 _ he2).symm
                subst he
                exact hin1 _ (Option.some.inj H).symm _ _ ⟨_, at_slots _ (by kernel_rfl), hI⟩
          · refine go_else' (t := decide (x1992 < (y35.1.length : Int))) (by kernel_rfl) hc1994 ?_
            refine go_exit rfl ?_
            refine go_seq ?_
            refine r_in ?_
            refine o_batch 0 [] [.p] [(6, .bool true)] [] trivial trivial (by kernel_rfl) (by kernel_rfl) (by kernel_rfl) ?_
            refine r_out (by kernel_rfl) ?_
            replace H := out_some H
            obtain ⟨_, H, he1⟩ := H
            have he := (hout1 _ he1).symm
            subst he
            replace H := Option.some.inj H
            subst H
            exact go_return (.bool true) Tryd.func4 (by kernel_rfl) ⟨rfl, hI.pick [] (by decide) rfl⟩
    · refine r_in ?_
      replace H := cond_some H
      rcases H with ⟨hc3168, H⟩ | ⟨hc3168, H⟩
      · refine o_batch 0 [] [.p, .p, .c true, .p, .p, .p] [(36, .int .i64 y35.2), (37, .bool (y35.2 != 0)), (38, .bool true), (39, undef), (40, undef), (41, .bool true)] [((bif (y35.2 != 0) == true then 0 else -1), 1)] trivial ⟨(bndEq hc3168), trivial⟩ (by kernel_rfl) (by kernel_rfl) (by kernel_rfl) ?_
        refine r_out (by kernel_rfl) ?_
        exact hJ55 true _ _ ⟨_, at_slots _ (by kernel_rfl), hI.pick [1, 2, 4, 5] (by decide) rfl⟩ H
      · refine o_batch 0 [] [.p, .p, .c false, .p, .p, .p] [(36, .int .i64 y35.2), (37, .bool (y35.2 != 0)), (38, .bool false), (39, .int .i64 y43.2), (40, .bool (y43.2 != 0)), (41, .bool (y43.2 != 0))] [((bif (y35.2 != 0) == false then 0 else -1), 1)] trivial ⟨(bndEq hc3168), trivial⟩ (by kernel_rfl) (by kernel_rfl) (by kernel_rfl) ?_
        refine r_out (by kernel_rfl) ?_
        exact hJ55 (y43.2 != 0) _ _ ⟨_, at_slots _ (by kernel_rfl), hI.pick [1, 2, 4, 5] (by decide) rfl⟩ H

end Go.Proofs.YtncapkloanfmnaaDoorT
