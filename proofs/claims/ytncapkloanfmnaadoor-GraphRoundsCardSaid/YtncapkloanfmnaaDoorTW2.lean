/- The walks, part 2: each call computes its plain function. -/
import Derived.Test.YtncapkloanfmnaaDoorTW1
import Derived.Shelf.Spec.TrailingZeros
import Derived.Test.YtncapkloanfmnaaDoorProg
namespace Go.Proofs.YtncapkloanfmnaaDoorT
open Go Go.Proofs Go.Shelf Go.Proofs.YtncapkloanfmnaaDoorE
set_option linter.unusedVariables false
set_option linter.unusedSimpArgs false
set_option maxHeartbeats 0
set_option maxRecDepth 4096
/-! ### assizelaw06.alive -/
theorem enter10 (a : Array Value) : Sem.pureRun Tryd.prog (callFunc 10 a) = some (.enter 10 a) := by kernel_rfl
theorem assizelaw06zalive_calls  (M : Mem) (w : World) (hI : Inv M w []) (hT : TabM M.blk) (r : Bool) (H : assizelaw06zalive = some r) :
    Calls Tryd.prog 10 #[] w fun e w' => e = .returned (.bool r) ∧ Inv M w' [] := by
  refine calls_go (updL (fun _ => undef) []) Tryd.func10 rfl (by kernel_rfl) ?_
  intro cs
  unfold assizelaw06zalive at H
  refine go_seq ?_
  refine r_in ?_
  refine o_batch 0 [] [.p] [(0, .bool false)] [] trivial trivial (by kernel_rfl) (by kernel_rfl) (by kernel_rfl) ?_
  refine r_out (by kernel_rfl) ?_
  refine go_seq ?_
  refine r_in ?_
  refine o_batch 0 [] [.p, .p] [(7, .agg #[.int .i64 2, .int .i64 1, .int .i64 8, .int .i64 0]), (8, .agg #[.int .i64 1, .int .i64 0, .int .i64 4, .int .i64 0])] [] trivial trivial (by kernel_rfl) (by kernel_rfl) (by kernel_rfl) ?_
  refine o_eff 2 _ rfl (by kernel_rfl) ?_
  refine e_parts 22 40 2 _ _ _ #[.int .i64 2, .int .i64 1, .int .i64 8, .int .i64 0, .int .i64 1, .int .i64 0, .int .i64 4, .int .i64 0] [.int .i64 2, .int .i64 1, .int .i64 8, .int .i64 0, .int .i64 1, .int .i64 0, .int .i64 4, .int .i64 0] rfl rfl rfl rfl (by kernel_rfl) (by kernel_rfl) (by kernel_rfl) (by kernel_rfl) hI ?_
  clear hI
  intro b3 _ hI
  replace hI := hI.asrow (k := kEdge) (xs := ([(⟨2, 1, 8, 0⟩ : Edge), (⟨1, 0, 4, 0⟩ : Edge)] : List Edge)) (cs := [.int .i64 2, .int .i64 1, .int .i64 8, .int .i64 0, .int .i64 1, .int .i64 0, .int .i64 4, .int .i64 0]) (R := []) (L' := []) 2 0 [] [] (by decide) rfl (mks_cons (mk_flat (k := kEdge) (⟨2, 1, 8, 0⟩ : Edge) [.int .i64 2, .int .i64 1, .int .i64 8, .int .i64 0] rfl) (mks_cons (mk_flat (k := kEdge) (⟨1, 0, 4, 0⟩ : Edge) [.int .i64 1, .int .i64 0, .int .i64 4, .int .i64 0] rfl) mks_nil)) rfl rfl (by kernel_rfl)
  refine o_batch 3 [] [.p] [(10, .agg #[.int .i64 3, .slice (some ⟨b3, 0, none⟩) 2 2])] [] trivial trivial (by kernel_rfl) (by kernel_rfl) (by kernel_rfl) ?_
  refine o_eff 4 _ rfl (by kernel_rfl) ?_
  refine e_alloc 24 (.agg #[.int .i64 0, .slice none 0 0]) [.int .i64 0, .slice none 0 0] rfl (by kernel_rfl) rfl hI ?_
  clear hI
  intro b4 _ hI
  refine o_eff 5 _ rfl (by kernel_rfl) ?_
  refine e_store 24 _ _ 1 b4 24 [.int .i64 0, .slice none 0 0] [.int .i64 3, .slice (some ⟨b3, 0, none⟩) 2 2] 0 (.agg #[.int .i64 3, .slice (some ⟨b3, 0, none⟩) 2 2]) rfl (by kernel_rfl) (by kernel_rfl) (by kernel_rfl) (by kernel_rfl) hI rfl (by kernel_rfl) (by kernel_rfl) ?_
  clear hI
  intro _ hI
  refine r_out (by kernel_rfl) ?_
  refine go_seq ?_
  refine r_in ?_
  refine o_batch 0 [(b4, 0, [.int .i64 3, .slice (some ⟨b3, 0, none⟩) 2 2])] [.l 0 0] [(12, .agg #[.int .i64 3, .slice (some ⟨b3, 0, none⟩) 2 2])] [] ⟨(hI.grp 1 rfl), trivial⟩ trivial (by kernel_rfl) (by kernel_rfl) (by kernel_rfl) ?_
  replace H := bind_some H
  obtain ⟨y9, hy10, H⟩ := H
  refine o_is 9 (.slice (some ⟨b3, 0, none⟩) 2 2) (.slice (some ⟨b3, 0, none⟩) (([(⟨2, 1, 8, 0⟩ : Edge), (⟨1, 0, 4, 0⟩ : Edge)] : List Edge).length) 2) (by kernel_rfl) (by first | rfl | simp only [List.length_set, List.length_replicate, List.length_nil]) ?_
  refine o_is 10 (.agg #[.int .i64 3, .slice (some ⟨b3, 0, none⟩) 2 2]) (.agg #[.int .i64 3, .slice (some ⟨b3, 0, none⟩) (([(⟨2, 1, 8, 0⟩ : Edge), (⟨1, 0, 4, 0⟩ : Edge)] : List Edge).length) 2]) (by kernel_rfl) (by first | rfl | simp only [List.length_set, List.length_replicate, List.length_nil]) ?_
  refine o_is 12 (.agg #[.int .i64 3, .slice (some ⟨b3, 0, none⟩) 2 2]) (.agg #[.int .i64 3, .slice (some ⟨b3, 0, none⟩) (([(⟨2, 1, 8, 0⟩ : Edge), (⟨1, 0, 4, 0⟩ : Edge)] : List Edge).length) 2]) (by kernel_rfl) (by first | rfl | simp only [List.length_set, List.length_replicate, List.length_nil]) ?_
  refine o_is 12 (.agg #[.int .i64 3, .slice (some ⟨b3, 0, none⟩) 2 2]) (.agg #[.int .i64 3, .slice (some ⟨b3, 0, none⟩) (([(⟨2, 1, 8, 0⟩ : Edge), (⟨1, 0, 4, 0⟩ : Edge)] : List Edge).length) 2]) (by kernel_rfl) (by first | rfl | simp only [List.length_set, List.length_replicate, List.length_nil]) ?_
  replace hI := hI.renum 0 rfl
  replace hI := hI.recell 1 [.int .i64 3, .slice (some ⟨b3, 0, none⟩) (([(⟨2, 1, 8, 0⟩ : Edge), (⟨1, 0, 4, 0⟩ : Edge)] : List Edge).length) 2] (by first | rfl | simp only [List.length_set, List.length_replicate, List.length_nil]) rfl
  refine o_eff 1 _ rfl (by kernel_rfl) ?_
  refine e_callf _ _ _ 21 #[] #[] #[.agg #[.int .i64 3, .slice (some ⟨b3, 0, none⟩) (([(⟨2, 1, 8, 0⟩ : Edge), (⟨1, 0, 4, 0⟩ : Edge)] : List Edge).length) 2], .int .i64 12] #[.agg #[.int .i64 3, .slice (some ⟨b3, 0, none⟩) (([(⟨2, 1, 8, 0⟩ : Edge), (⟨1, 0, 4, 0⟩ : Edge)] : List Edge).length) 2], .int .i64 12] rfl (by kernel_rfl) (by kernel_rfl) (by kernel_rfl) (enter21 _) (graph_Order_calls (⟨3, ([(⟨2, 1, 8, 0⟩ : Edge), (⟨1, 0, 4, 0⟩ : Edge)] : List Edge)⟩ : Graph) (some ⟨b3, 0, none⟩) 2 12 (memOf _) _ (Inv.start _) (hI.rd hT) (hI.row 0 rfl) (hI.rowle 0 rfl) _ hy10) ?_
  rintro _ _ ⟨A11, c12, rfl, hI'⟩
  replace hI := hI.call0 hI'
  clear hI'
  refine ⟨_, rfl, ?_⟩
  refine o_batch 2 [] [.p, .p, .p, .p, .p, .p, .p] [(11, .tuple #[.slice A11 y9.1.length c12, .bool y9.2.1, .int .i64 y9.2.2]), (14, .slice A11 y9.1.length c12), (15, .bool y9.2.1), (16, .int .i64 y9.2.2), (2, .slice A11 y9.1.length c12), (3, .bool y9.2.1), (4, .int .i64 y9.2.2)] [] trivial trivial (by kernel_rfl) (by kernel_rfl) (by kernel_rfl) ?_
  refine r_out (by kernel_rfl) ?_
  refine go_seq ?_
  refine r_in ?_
  refine o_batch 0 [(b4, 0, [.int .i64 3, .slice (some ⟨b3, 0, none⟩) (([(⟨2, 1, 8, 0⟩ : Edge), (⟨1, 0, 4, 0⟩ : Edge)] : List Edge).length) 2])] [.l 0 0] [(18, .agg #[.int .i64 3, .slice (some ⟨b3, 0, none⟩) (([(⟨2, 1, 8, 0⟩ : Edge), (⟨1, 0, 4, 0⟩ : Edge)] : List Edge).length) 2])] [] ⟨(hI.grp 1 rfl), trivial⟩ trivial (by kernel_rfl) (by kernel_rfl) (by kernel_rfl) ?_
  replace H := bind_some H
  obtain ⟨y17, hy18, H⟩ := H
  refine o_eff 1 _ rfl (by kernel_rfl) ?_
  refine e_callf _ _ _ 12 #[] #[] #[.agg #[.int .i64 3, .slice (some ⟨b3, 0, none⟩) (([(⟨2, 1, 8, 0⟩ : Edge), (⟨1, 0, 4, 0⟩ : Edge)] : List Edge).length) 2], .int .i64 8, .int .i64 2] #[.agg #[.int .i64 3, .slice (some ⟨b3, 0, none⟩) (([(⟨2, 1, 8, 0⟩ : Edge), (⟨1, 0, 4, 0⟩ : Edge)] : List Edge).length) 2], .int .i64 8, .int .i64 2] rfl (by kernel_rfl) (by kernel_rfl) (by kernel_rfl) (enter12 _) (graph_Reach_calls (⟨3, ([(⟨2, 1, 8, 0⟩ : Edge), (⟨1, 0, 4, 0⟩ : Edge)] : List Edge)⟩ : Graph) (some ⟨b3, 0, none⟩) 2 8 2 (memOf _) _ (Inv.start _) (hI.rd hT) (hI.row 0 rfl) (hI.rowle 0 rfl) _ hy18) ?_
  rintro _ _ ⟨A19, c20, rfl, hI'⟩
  replace hI := hI.call0 hI'
  clear hI'
  refine ⟨_, rfl, ?_⟩
  refine o_batch 2 [] [.p, .p, .p, .p, .p] [(17, .tuple #[.slice A19 y17.1.length c20, .int .i64 y17.2]), (20, .slice A19 y17.1.length c20), (21, .int .i64 y17.2), (5, .slice A19 y17.1.length c20), (6, .int .i64 y17.2)] [] trivial trivial (by kernel_rfl) (by kernel_rfl) (by kernel_rfl) ?_
  refine r_out (by kernel_rfl) ?_
  refine go_seq ?_
  refine r_in ?_
  replace H := cond_some H
  rcases H with ⟨hc38, H⟩ | ⟨hc38, H⟩
  · replace H := cond_some H
    rcases H with ⟨hc39, H⟩ | ⟨hc39, H⟩
    · replace H := cond_some H
      rcases H with ⟨hc40, H⟩ | ⟨hc40, H⟩
      · replace H := must_some H
        obtain ⟨g41, H⟩ := H
        obtain ⟨b42, rfl⟩ := hI.rowAt 2 rfl g41
        replace H := cond_some H
        rcases H with ⟨hc43, H⟩ | ⟨hc43, H⟩
        · replace H := must_some H
          obtain ⟨g44, H⟩ := H
          replace H := cond_some H
          rcases H with ⟨hc45, H⟩ | ⟨hc45, H⟩
          · replace H := cond_some H
            rcases H with ⟨hc46, H⟩ | ⟨hc46, H⟩
            · replace H := cond_some H
              rcases H with ⟨hc47, H⟩ | ⟨hc47, H⟩
              · replace H := must_some H
                obtain ⟨g48, H⟩ := H
                obtain ⟨b49, rfl⟩ := hI.rowAt 3 rfl g48
                replace H := cond_some H
                rcases H with ⟨hc50, H⟩ | ⟨hc50, H⟩
                · replace H := must_some H
                  obtain ⟨g51, H⟩ := H
                  replace H := cond_some H
                  rcases H with ⟨hc52, H⟩ | ⟨hc52, H⟩
                  · refine o_batch 0 [(b42, 0 + (0 : Int).toNat * 1, [.int .i64 (idx y9.1 (0 : Int))]), (b42, 0 + (2 : Int).toNat * 1, [.int .i64 (idx y9.1 (2 : Int))]), (b49, 0 + (1 : Int).toNat * 1, [.bool (idx y17.1 (1 : Int))]), (b49, 0 + (0 : Int).toNat * 1, [.bool (idx y17.1 (0 : Int))])] [.p, .p, .c true, .p, .p, .c true, .p, .p, .p, .p, .c true, .p, .x, .l 0 0, .p, .p, .c true, .p, .x, .l 1 0, .p, .p, .c true, .p, .p, .p, .c true, .p, .p, .p, .p, .c true, .p, .x, .l 2 0, .p, .c true, .p, .x, .l 3 0, .p, .p, .c true, .p] [(22, .int .i64 y9.2.2), (23, .bool (y9.2.2 == 0)), (24, .bool true), (25, .bool y9.2.1), (26, .bool y9.2.1), (27, .bool true), (28, .slice (some ⟨b42, 0, none⟩) y9.1.length c12), (29, .int .i64 (y9.1.length : Int)), (30, .bool ((y9.1.length : Int) == 3)), (31, .bool ((y9.1.length : Int) == 3)), (32, .bool true), (33, .slice (some ⟨b42, 0, none⟩) y9.1.length c12), (34, .pointer (some ⟨b42, 0 + (0 : Int).toNat * 1, none⟩)), (35, .int .i64 (idx y9.1 (0 : Int))), (36, .bool (idx y9.1 (0 : Int) == 2)), (37, .bool (idx y9.1 (0 : Int) == 2)), (38, .bool true), (39, .slice (some ⟨b42, 0, none⟩) y9.1.length c12), (40, .pointer (some ⟨b42, 0 + (2 : Int).toNat * 1, none⟩)), (41, .int .i64 (idx y9.1 (2 : Int))), (42, .bool (idx y9.1 (2 : Int) == 0)), (43, .bool (idx y9.1 (2 : Int) == 0)), (44, .bool true), (45, .int .i64 y17.2), (46, .bool (y17.2 == 0)), (47, .bool (y17.2 == 0)), (48, .bool true), (49, .slice (some ⟨b49, 0, none⟩) y17.1.length c20), (50, .int .i64 (y17.1.length : Int)), (51, .bool ((y17.1.length : Int) == 3)), (52, .bool ((y17.1.length : Int) == 3)), (53, .bool true), (54, .slice (some ⟨b49, 0, none⟩) y17.1.length c20), (55, .pointer (some ⟨b49, 0 + (1 : Int).toNat * 1, none⟩)), (56, .bool (idx y17.1 (1 : Int))), (57, .bool (idx y17.1 (1 : Int))), (58, .bool true), (59, .slice (some ⟨b49, 0, none⟩) y17.1.length c20), (60, .pointer (some ⟨b49, 0 + (0 : Int).toNat * 1, none⟩)), (61, .bool (idx y17.1 (0 : Int))), (62, .bool (!(idx y17.1 (0 : Int)))), (63, .bool (!(idx y17.1 (0 : Int)))), (64, .bool true), (65, .agg #[.int .i64 (-1), .slice none 0 0])] [((bif (y9.2.2 == 0) == true then 0 else -1), 1), ((bif y9.2.1 == true then 0 else -1), 1), ((bif ((y9.1.length : Int) == 3) == true then 0 else -1), 1), (0, y9.1.length), ((bif (idx y9.1 (0 : Int) == 2) == true then 0 else -1), 1), (2, y9.1.length), ((bif (idx y9.1 (2 : Int) == 0) == true then 0 else -1), 1), ((bif (y17.2 == 0) == true then 0 else -1), 1), ((bif ((y17.1.length : Int) == 3) == true then 0 else -1), 1), (1, y17.1.length), ((bif (idx y17.1 (1 : Int)) == true then 0 else -1), 1), (0, y17.1.length), ((bif (!(idx y17.1 (0 : Int))) == true then 0 else -1), 1)] ⟨(rdS.flook (hI.row 2 rfl) (hI.rowlen 2 rfl) g41).ok, (rdS.flook (hI.row 2 rfl) (hI.rowlen 2 rfl) g44).ok, (rdS.flook (hI.row 3 rfl) (hI.rowlen 3 rfl) g48).ok, (rdS.flook (hI.row 3 rfl) (hI.rowlen 3 rfl) g51).ok, trivial⟩ ⟨(bndEq hc38), (bndEq hc39), (bndEq hc40), g41, (bndEq hc43), g44, (bndEq hc45), (bndEq hc46), (bndEq hc47), g48, (bndEq hc50), g51, (bndEq hc52), trivial⟩ (by kernel_rfl) (by kernel_rfl) (by kernel_rfl) ?_
                    replace H := bind_some H
                    obtain ⟨y53, hy54, H⟩ := H
                    refine o_eff 44 _ rfl (by kernel_rfl) ?_
                    refine e_callf _ _ _ 18 #[] #[] #[.agg #[.int .i64 (-1), .slice none 0 0]] #[.agg #[.int .i64 (-1), .slice none 0 0]] rfl (by kernel_rfl) (by kernel_rfl) (by kernel_rfl) (enter18 _) (graph_Check_calls (⟨(-1), ([] : List Edge)⟩ : Graph) none 0 (memOf _) _ (Inv.start _) (.inl rfl) (Nat.le_refl _) _ hy54) ?_
                    rintro _ _ ⟨rfl, hI'⟩
                    replace hI := hI.call0 hI'
                    clear hI'
                    refine ⟨_, rfl, ?_⟩
                    refine o_batch 45 [] [.p, .p, .p] [(67, .bool (y53 == 60)), (68, .bool (y53 == 60)), (0, .bool (y53 == 60))] [] trivial trivial (by kernel_rfl) (by kernel_rfl) (by kernel_rfl) ?_
                    refine r_out (by kernel_rfl) ?_
                    replace H := Option.some.inj H
                    subst H
                    exact go_return (.bool (y53 == 60)) Tryd.func10 (by kernel_rfl) ⟨rfl, hI.pick [] (by decide) rfl⟩
                  · refine o_batch 0 [(b42, 0 + (0 : Int).toNat * 1, [.int .i64 (idx y9.1 (0 : Int))]), (b42, 0 + (2 : Int).toNat * 1, [.int .i64 (idx y9.1 (2 : Int))]), (b49, 0 + (1 : Int).toNat * 1, [.bool (idx y17.1 (1 : Int))]), (b49, 0 + (0 : Int).toNat * 1, [.bool (idx y17.1 (0 : Int))])] [.p, .p, .c true, .p, .p, .c true, .p, .p, .p, .p, .c true, .p, .x, .l 0 0, .p, .p, .c true, .p, .x, .l 1 0, .p, .p, .c true, .p, .p, .p, .c true, .p, .p, .p, .p, .c true, .p, .x, .l 2 0, .p, .c true, .p, .x, .l 3 0, .p, .p, .c false, .p, .p, .p, .p, .p] [(22, .int .i64 y9.2.2), (23, .bool (y9.2.2 == 0)), (24, .bool true), (25, .bool y9.2.1), (26, .bool y9.2.1), (27, .bool true), (28, .slice (some ⟨b42, 0, none⟩) y9.1.length c12), (29, .int .i64 (y9.1.length : Int)), (30, .bool ((y9.1.length : Int) == 3)), (31, .bool ((y9.1.length : Int) == 3)), (32, .bool true), (33, .slice (some ⟨b42, 0, none⟩) y9.1.length c12), (34, .pointer (some ⟨b42, 0 + (0 : Int).toNat * 1, none⟩)), (35, .int .i64 (idx y9.1 (0 : Int))), (36, .bool (idx y9.1 (0 : Int) == 2)), (37, .bool (idx y9.1 (0 : Int) == 2)), (38, .bool true), (39, .slice (some ⟨b42, 0, none⟩) y9.1.length c12), (40, .pointer (some ⟨b42, 0 + (2 : Int).toNat * 1, none⟩)), (41, .int .i64 (idx y9.1 (2 : Int))), (42, .bool (idx y9.1 (2 : Int) == 0)), (43, .bool (idx y9.1 (2 : Int) == 0)), (44, .bool true), (45, .int .i64 y17.2), (46, .bool (y17.2 == 0)), (47, .bool (y17.2 == 0)), (48, .bool true), (49, .slice (some ⟨b49, 0, none⟩) y17.1.length c20), (50, .int .i64 (y17.1.length : Int)), (51, .bool ((y17.1.length : Int) == 3)), (52, .bool ((y17.1.length : Int) == 3)), (53, .bool true), (54, .slice (some ⟨b49, 0, none⟩) y17.1.length c20), (55, .pointer (some ⟨b49, 0 + (1 : Int).toNat * 1, none⟩)), (56, .bool (idx y17.1 (1 : Int))), (57, .bool (idx y17.1 (1 : Int))), (58, .bool true), (59, .slice (some ⟨b49, 0, none⟩) y17.1.length c20), (60, .pointer (some ⟨b49, 0 + (0 : Int).toNat * 1, none⟩)), (61, .bool (idx y17.1 (0 : Int))), (62, .bool (!(idx y17.1 (0 : Int)))), (63, .bool (!(idx y17.1 (0 : Int)))), (64, .bool false), (65, undef), (66, undef), (67, undef), (68, .bool false), (0, .bool false)] [((bif (y9.2.2 == 0) == true then 0 else -1), 1), ((bif y9.2.1 == true then 0 else -1), 1), ((bif ((y9.1.length : Int) == 3) == true then 0 else -1), 1), (0, y9.1.length), ((bif (idx y9.1 (0 : Int) == 2) == true then 0 else -1), 1), (2, y9.1.length), ((bif (idx y9.1 (2 : Int) == 0) == true then 0 else -1), 1), ((bif (y17.2 == 0) == true then 0 else -1), 1), ((bif ((y17.1.length : Int) == 3) == true then 0 else -1), 1), (1, y17.1.length), ((bif (idx y17.1 (1 : Int)) == true then 0 else -1), 1), (0, y17.1.length), ((bif (!(idx y17.1 (0 : Int))) == false then 0 else -1), 1)] ⟨(rdS.flook (hI.row 2 rfl) (hI.rowlen 2 rfl) g41).ok, (rdS.flook (hI.row 2 rfl) (hI.rowlen 2 rfl) g44).ok, (rdS.flook (hI.row 3 rfl) (hI.rowlen 3 rfl) g48).ok, (rdS.flook (hI.row 3 rfl) (hI.rowlen 3 rfl) g51).ok, trivial⟩ ⟨(bndEq hc38), (bndEq hc39), (bndEq hc40), g41, (bndEq hc43), g44, (bndEq hc45), (bndEq hc46), (bndEq hc47), g48, (bndEq hc50), g51, (bndEq hc52), trivial⟩ (by kernel_rfl) (by kernel_rfl) (by kernel_rfl) ?_
                    refine r_out (by kernel_rfl) ?_
                    replace H := Option.some.inj H
                    subst H
                    exact go_return (.bool false) Tryd.func10 (by kernel_rfl) ⟨rfl, hI.pick [] (by decide) rfl⟩
                · refine o_batch 0 [(b42, 0 + (0 : Int).toNat * 1, [.int .i64 (idx y9.1 (0 : Int))]), (b42, 0 + (2 : Int).toNat * 1, [.int .i64 (idx y9.1 (2 : Int))]), (b49, 0 + (1 : Int).toNat * 1, [.bool (idx y17.1 (1 : Int))])] [.p, .p, .c true, .p, .p, .c true, .p, .p, .p, .p, .c true, .p, .x, .l 0 0, .p, .p, .c true, .p, .x, .l 1 0, .p, .p, .c true, .p, .p, .p, .c true, .p, .p, .p, .p, .c true, .p, .x, .l 2 0, .p, .c false, .p, .p, .p, .p, .p, .p, .p, .p, .p, .p, .p] [(22, .int .i64 y9.2.2), (23, .bool (y9.2.2 == 0)), (24, .bool true), (25, .bool y9.2.1), (26, .bool y9.2.1), (27, .bool true), (28, .slice (some ⟨b42, 0, none⟩) y9.1.length c12), (29, .int .i64 (y9.1.length : Int)), (30, .bool ((y9.1.length : Int) == 3)), (31, .bool ((y9.1.length : Int) == 3)), (32, .bool true), (33, .slice (some ⟨b42, 0, none⟩) y9.1.length c12), (34, .pointer (some ⟨b42, 0 + (0 : Int).toNat * 1, none⟩)), (35, .int .i64 (idx y9.1 (0 : Int))), (36, .bool (idx y9.1 (0 : Int) == 2)), (37, .bool (idx y9.1 (0 : Int) == 2)), (38, .bool true), (39, .slice (some ⟨b42, 0, none⟩) y9.1.length c12), (40, .pointer (some ⟨b42, 0 + (2 : Int).toNat * 1, none⟩)), (41, .int .i64 (idx y9.1 (2 : Int))), (42, .bool (idx y9.1 (2 : Int) == 0)), (43, .bool (idx y9.1 (2 : Int) == 0)), (44, .bool true), (45, .int .i64 y17.2), (46, .bool (y17.2 == 0)), (47, .bool (y17.2 == 0)), (48, .bool true), (49, .slice (some ⟨b49, 0, none⟩) y17.1.length c20), (50, .int .i64 (y17.1.length : Int)), (51, .bool ((y17.1.length : Int) == 3)), (52, .bool ((y17.1.length : Int) == 3)), (53, .bool true), (54, .slice (some ⟨b49, 0, none⟩) y17.1.length c20), (55, .pointer (some ⟨b49, 0 + (1 : Int).toNat * 1, none⟩)), (56, .bool (idx y17.1 (1 : Int))), (57, .bool (idx y17.1 (1 : Int))), (58, .bool false), (59, undef), (60, undef), (61, undef), (62, undef), (63, .bool false), (64, .bool false), (65, undef), (66, undef), (67, undef), (68, .bool false), (0, .bool false)] [((bif (y9.2.2 == 0) == true then 0 else -1), 1), ((bif y9.2.1 == true then 0 else -1), 1), ((bif ((y9.1.length : Int) == 3) == true then 0 else -1), 1), (0, y9.1.length), ((bif (idx y9.1 (0 : Int) == 2) == true then 0 else -1), 1), (2, y9.1.length), ((bif (idx y9.1 (2 : Int) == 0) == true then 0 else -1), 1), ((bif (y17.2 == 0) == true then 0 else -1), 1), ((bif ((y17.1.length : Int) == 3) == true then 0 else -1), 1), (1, y17.1.length), ((bif (idx y17.1 (1 : Int)) == false then 0 else -1), 1)] ⟨(rdS.flook (hI.row 2 rfl) (hI.rowlen 2 rfl) g41).ok, (rdS.flook (hI.row 2 rfl) (hI.rowlen 2 rfl) g44).ok, (rdS.flook (hI.row 3 rfl) (hI.rowlen 3 rfl) g48).ok, trivial⟩ ⟨(bndEq hc38), (bndEq hc39), (bndEq hc40), g41, (bndEq hc43), g44, (bndEq hc45), (bndEq hc46), (bndEq hc47), g48, (bndEq hc50), trivial⟩ (by kernel_rfl) (by kernel_rfl) (by kernel_rfl) ?_
                  refine r_out (by kernel_rfl) ?_
                  replace H := Option.some.inj H
                  subst H
                  exact go_return (.bool false) Tryd.func10 (by kernel_rfl) ⟨rfl, hI.pick [] (by decide) rfl⟩
              · refine o_batch 0 [(b42, 0 + (0 : Int).toNat * 1, [.int .i64 (idx y9.1 (0 : Int))]), (b42, 0 + (2 : Int).toNat * 1, [.int .i64 (idx y9.1 (2 : Int))])] [.p, .p, .c true, .p, .p, .c true, .p, .p, .p, .p, .c true, .p, .x, .l 0 0, .p, .p, .c true, .p, .x, .l 1 0, .p, .p, .c true, .p, .p, .p, .c true, .p, .p, .p, .p, .c false, .p, .p, .p, .p, .p, .p, .p, .p, .p, .p, .p, .p, .p, .p, .p, .p] [(22, .int .i64 y9.2.2), (23, .bool (y9.2.2 == 0)), (24, .bool true), (25, .bool y9.2.1), (26, .bool y9.2.1), (27, .bool true), (28, .slice (some ⟨b42, 0, none⟩) y9.1.length c12), (29, .int .i64 (y9.1.length : Int)), (30, .bool ((y9.1.length : Int) == 3)), (31, .bool ((y9.1.length : Int) == 3)), (32, .bool true), (33, .slice (some ⟨b42, 0, none⟩) y9.1.length c12), (34, .pointer (some ⟨b42, 0 + (0 : Int).toNat * 1, none⟩)), (35, .int .i64 (idx y9.1 (0 : Int))), (36, .bool (idx y9.1 (0 : Int) == 2)), (37, .bool (idx y9.1 (0 : Int) == 2)), (38, .bool true), (39, .slice (some ⟨b42, 0, none⟩) y9.1.length c12), (40, .pointer (some ⟨b42, 0 + (2 : Int).toNat * 1, none⟩)), (41, .int .i64 (idx y9.1 (2 : Int))), (42, .bool (idx y9.1 (2 : Int) == 0)), (43, .bool (idx y9.1 (2 : Int) == 0)), (44, .bool true), (45, .int .i64 y17.2), (46, .bool (y17.2 == 0)), (47, .bool (y17.2 == 0)), (48, .bool true), (49, .slice A19 y17.1.length c20), (50, .int .i64 (y17.1.length : Int)), (51, .bool ((y17.1.length : Int) == 3)), (52, .bool ((y17.1.length : Int) == 3)), (53, .bool false), (54, undef), (55, undef), (56, undef), (57, .bool false), (58, .bool false), (59, undef), (60, undef), (61, undef), (62, undef), (63, .bool false), (64, .bool false), (65, undef), (66, undef), (67, undef), (68, .bool false), (0, .bool false)] [((bif (y9.2.2 == 0) == true then 0 else -1), 1), ((bif y9.2.1 == true then 0 else -1), 1), ((bif ((y9.1.length : Int) == 3) == true then 0 else -1), 1), (0, y9.1.length), ((bif (idx y9.1 (0 : Int) == 2) == true then 0 else -1), 1), (2, y9.1.length), ((bif (idx y9.1 (2 : Int) == 0) == true then 0 else -1), 1), ((bif (y17.2 == 0) == true then 0 else -1), 1), ((bif ((y17.1.length : Int) == 3) == false then 0 else -1), 1)] ⟨(rdS.flook (hI.row 2 rfl) (hI.rowlen 2 rfl) g41).ok, (rdS.flook (hI.row 2 rfl) (hI.rowlen 2 rfl) g44).ok, trivial⟩ ⟨(bndEq hc38), (bndEq hc39), (bndEq hc40), g41, (bndEq hc43), g44, (bndEq hc45), (bndEq hc46), (bndEq hc47), trivial⟩ (by kernel_rfl) (by kernel_rfl) (by kernel_rfl) ?_
                refine r_out (by kernel_rfl) ?_
                replace H := Option.some.inj H
                subst H
                exact go_return (.bool false) Tryd.func10 (by kernel_rfl) ⟨rfl, hI.pick [] (by decide) rfl⟩
            · refine o_batch 0 [(b42, 0 + (0 : Int).toNat * 1, [.int .i64 (idx y9.1 (0 : Int))]), (b42, 0 + (2 : Int).toNat * 1, [.int .i64 (idx y9.1 (2 : Int))])] [.p, .p, .c true, .p, .p, .c true, .p, .p, .p, .p, .c true, .p, .x, .l 0 0, .p, .p, .c true, .p, .x, .l 1 0, .p, .p, .c true, .p, .p, .p, .c false, .p, .p, .p, .p, .p, .p, .p, .p, .p, .p, .p, .p, .p, .p, .p, .p, .p, .p, .p, .p, .p] [(22, .int .i64 y9.2.2), (23, .bool (y9.2.2 == 0)), (24, .bool true), (25, .bool y9.2.1), (26, .bool y9.2.1), (27, .bool true), (28, .slice (some ⟨b42, 0, none⟩) y9.1.length c12), (29, .int .i64 (y9.1.length : Int)), (30, .bool ((y9.1.length : Int) == 3)), (31, .bool ((y9.1.length : Int) == 3)), (32, .bool true), (33, .slice (some ⟨b42, 0, none⟩) y9.1.length c12), (34, .pointer (some ⟨b42, 0 + (0 : Int).toNat * 1, none⟩)), (35, .int .i64 (idx y9.1 (0 : Int))), (36, .bool (idx y9.1 (0 : Int) == 2)), (37, .bool (idx y9.1 (0 : Int) == 2)), (38, .bool true), (39, .slice (some ⟨b42, 0, none⟩) y9.1.length c12), (40, .pointer (some ⟨b42, 0 + (2 : Int).toNat * 1, none⟩)), (41, .int .i64 (idx y9.1 (2 : Int))), (42, .bool (idx y9.1 (2 : Int) == 0)), (43, .bool (idx y9.1 (2 : Int) == 0)), (44, .bool true), (45, .int .i64 y17.2), (46, .bool (y17.2 == 0)), (47, .bool (y17.2 == 0)), (48, .bool false), (49, undef), (50, undef), (51, undef), (52, .bool false), (53, .bool false), (54, undef), (55, undef), (56, undef), (57, .bool false), (58, .bool false), (59, undef), (60, undef), (61, undef), (62, undef), (63, .bool false), (64, .bool false), (65, undef), (66, undef), (67, undef), (68, .bool false), (0, .bool false)] [((bif (y9.2.2 == 0) == true then 0 else -1), 1), ((bif y9.2.1 == true then 0 else -1), 1), ((bif ((y9.1.length : Int) == 3) == true then 0 else -1), 1), (0, y9.1.length), ((bif (idx y9.1 (0 : Int) == 2) == true then 0 else -1), 1), (2, y9.1.length), ((bif (idx y9.1 (2 : Int) == 0) == true then 0 else -1), 1), ((bif (y17.2 == 0) == false then 0 else -1), 1)] ⟨(rdS.flook (hI.row 2 rfl) (hI.rowlen 2 rfl) g41).ok, (rdS.flook (hI.row 2 rfl) (hI.rowlen 2 rfl) g44).ok, trivial⟩ ⟨(bndEq hc38), (bndEq hc39), (bndEq hc40), g41, (bndEq hc43), g44, (bndEq hc45), (bndEq hc46), trivial⟩ (by kernel_rfl) (by kernel_rfl) (by kernel_rfl) ?_
              refine r_out (by kernel_rfl) ?_
              replace H := Option.some.inj H
              subst H
              exact go_return (.bool false) Tryd.func10 (by kernel_rfl) ⟨rfl, hI.pick [] (by decide) rfl⟩
          · refine o_batch 0 [(b42, 0 + (0 : Int).toNat * 1, [.int .i64 (idx y9.1 (0 : Int))]), (b42, 0 + (2 : Int).toNat * 1, [.int .i64 (idx y9.1 (2 : Int))])] [.p, .p, .c true, .p, .p, .c true, .p, .p, .p, .p, .c true, .p, .x, .l 0 0, .p, .p, .c true, .p, .x, .l 1 0, .p, .p, .c false, .p, .p, .p, .p, .p, .p, .p, .p, .p, .p, .p, .p, .p, .p, .p, .p, .p, .p, .p, .p, .p, .p, .p, .p, .p] [(22, .int .i64 y9.2.2), (23, .bool (y9.2.2 == 0)), (24, .bool true), (25, .bool y9.2.1), (26, .bool y9.2.1), (27, .bool true), (28, .slice (some ⟨b42, 0, none⟩) y9.1.length c12), (29, .int .i64 (y9.1.length : Int)), (30, .bool ((y9.1.length : Int) == 3)), (31, .bool ((y9.1.length : Int) == 3)), (32, .bool true), (33, .slice (some ⟨b42, 0, none⟩) y9.1.length c12), (34, .pointer (some ⟨b42, 0 + (0 : Int).toNat * 1, none⟩)), (35, .int .i64 (idx y9.1 (0 : Int))), (36, .bool (idx y9.1 (0 : Int) == 2)), (37, .bool (idx y9.1 (0 : Int) == 2)), (38, .bool true), (39, .slice (some ⟨b42, 0, none⟩) y9.1.length c12), (40, .pointer (some ⟨b42, 0 + (2 : Int).toNat * 1, none⟩)), (41, .int .i64 (idx y9.1 (2 : Int))), (42, .bool (idx y9.1 (2 : Int) == 0)), (43, .bool (idx y9.1 (2 : Int) == 0)), (44, .bool false), (45, undef), (46, undef), (47, .bool false), (48, .bool false), (49, undef), (50, undef), (51, undef), (52, .bool false), (53, .bool false), (54, undef), (55, undef), (56, undef), (57, .bool false), (58, .bool false), (59, undef), (60, undef), (61, undef), (62, undef), (63, .bool false), (64, .bool false), (65, undef), (66, undef), (67, undef), (68, .bool false), (0, .bool false)] [((bif (y9.2.2 == 0) == true then 0 else -1), 1), ((bif y9.2.1 == true then 0 else -1), 1), ((bif ((y9.1.length : Int) == 3) == true then 0 else -1), 1), (0, y9.1.length), ((bif (idx y9.1 (0 : Int) == 2) == true then 0 else -1), 1), (2, y9.1.length), ((bif (idx y9.1 (2 : Int) == 0) == false then 0 else -1), 1)] ⟨(rdS.flook (hI.row 2 rfl) (hI.rowlen 2 rfl) g41).ok, (rdS.flook (hI.row 2 rfl) (hI.rowlen 2 rfl) g44).ok, trivial⟩ ⟨(bndEq hc38), (bndEq hc39), (bndEq hc40), g41, (bndEq hc43), g44, (bndEq hc45), trivial⟩ (by kernel_rfl) (by kernel_rfl) (by kernel_rfl) ?_
            refine r_out (by kernel_rfl) ?_
            replace H := Option.some.inj H
            subst H
            exact go_return (.bool false) Tryd.func10 (by kernel_rfl) ⟨rfl, hI.pick [] (by decide) rfl⟩
        · refine o_batch 0 [(b42, 0 + (0 : Int).toNat * 1, [.int .i64 (idx y9.1 (0 : Int))])] [.p, .p, .c true, .p, .p, .c true, .p, .p, .p, .p, .c true, .p, .x, .l 0 0, .p, .p, .c false, .p, .p, .p, .p, .p, .p, .p, .p, .p, .p, .p, .p, .p, .p, .p, .p, .p, .p, .p, .p, .p, .p, .p, .p, .p, .p, .p, .p, .p, .p, .p] [(22, .int .i64 y9.2.2), (23, .bool (y9.2.2 == 0)), (24, .bool true), (25, .bool y9.2.1), (26, .bool y9.2.1), (27, .bool true), (28, .slice (some ⟨b42, 0, none⟩) y9.1.length c12), (29, .int .i64 (y9.1.length : Int)), (30, .bool ((y9.1.length : Int) == 3)), (31, .bool ((y9.1.length : Int) == 3)), (32, .bool true), (33, .slice (some ⟨b42, 0, none⟩) y9.1.length c12), (34, .pointer (some ⟨b42, 0 + (0 : Int).toNat * 1, none⟩)), (35, .int .i64 (idx y9.1 (0 : Int))), (36, .bool (idx y9.1 (0 : Int) == 2)), (37, .bool (idx y9.1 (0 : Int) == 2)), (38, .bool false), (39, undef), (40, undef), (41, undef), (42, undef), (43, .bool false), (44, .bool false), (45, undef), (46, undef), (47, .bool false), (48, .bool false), (49, undef), (50, undef), (51, undef), (52, .bool false), (53, .bool false), (54, undef), (55, undef), (56, undef), (57, .bool false), (58, .bool false), (59, undef), (60, undef), (61, undef), (62, undef), (63, .bool false), (64, .bool false), (65, undef), (66, undef), (67, undef), (68, .bool false), (0, .bool false)] [((bif (y9.2.2 == 0) == true then 0 else -1), 1), ((bif y9.2.1 == true then 0 else -1), 1), ((bif ((y9.1.length : Int) == 3) == true then 0 else -1), 1), (0, y9.1.length), ((bif (idx y9.1 (0 : Int) == 2) == false then 0 else -1), 1)] ⟨(rdS.flook (hI.row 2 rfl) (hI.rowlen 2 rfl) g41).ok, trivial⟩ ⟨(bndEq hc38), (bndEq hc39), (bndEq hc40), g41, (bndEq hc43), trivial⟩ (by kernel_rfl) (by kernel_rfl) (by kernel_rfl) ?_
          refine r_out (by kernel_rfl) ?_
          replace H := Option.some.inj H
          subst H
          exact go_return (.bool false) Tryd.func10 (by kernel_rfl) ⟨rfl, hI.pick [] (by decide) rfl⟩
      · refine o_batch 0 [] [.p, .p, .c true, .p, .p, .c true, .p, .p, .p, .p, .c false, .p, .p, .p, .p, .p, .p, .p, .p, .p, .p, .p, .p, .p, .p, .p, .p, .p, .p, .p, .p, .p, .p, .p, .p, .p, .p, .p, .p, .p, .p, .p, .p, .p, .p, .p, .p, .p] [(22, .int .i64 y9.2.2), (23, .bool (y9.2.2 == 0)), (24, .bool true), (25, .bool y9.2.1), (26, .bool y9.2.1), (27, .bool true), (28, .slice A11 y9.1.length c12), (29, .int .i64 (y9.1.length : Int)), (30, .bool ((y9.1.length : Int) == 3)), (31, .bool ((y9.1.length : Int) == 3)), (32, .bool false), (33, undef), (34, undef), (35, undef), (36, undef), (37, .bool false), (38, .bool false), (39, undef), (40, undef), (41, undef), (42, undef), (43, .bool false), (44, .bool false), (45, undef), (46, undef), (47, .bool false), (48, .bool false), (49, undef), (50, undef), (51, undef), (52, .bool false), (53, .bool false), (54, undef), (55, undef), (56, undef), (57, .bool false), (58, .bool false), (59, undef), (60, undef), (61, undef), (62, undef), (63, .bool false), (64, .bool false), (65, undef), (66, undef), (67, undef), (68, .bool false), (0, .bool false)] [((bif (y9.2.2 == 0) == true then 0 else -1), 1), ((bif y9.2.1 == true then 0 else -1), 1), ((bif ((y9.1.length : Int) == 3) == false then 0 else -1), 1)] trivial ⟨(bndEq hc38), (bndEq hc39), (bndEq hc40), trivial⟩ (by kernel_rfl) (by kernel_rfl) (by kernel_rfl) ?_
        refine r_out (by kernel_rfl) ?_
        replace H := Option.some.inj H
        subst H
        exact go_return (.bool false) Tryd.func10 (by kernel_rfl) ⟨rfl, hI.pick [] (by decide) rfl⟩
    · refine o_batch 0 [] [.p, .p, .c true, .p, .p, .c false, .p, .p, .p, .p, .p, .p, .p, .p, .p, .p, .p, .p, .p, .p, .p, .p, .p, .p, .p, .p, .p, .p, .p, .p, .p, .p, .p, .p, .p, .p, .p, .p, .p, .p, .p, .p, .p, .p, .p, .p, .p, .p] [(22, .int .i64 y9.2.2), (23, .bool (y9.2.2 == 0)), (24, .bool true), (25, .bool y9.2.1), (26, .bool y9.2.1), (27, .bool false), (28, undef), (29, undef), (30, undef), (31, .bool false), (32, .bool false), (33, undef), (34, undef), (35, undef), (36, undef), (37, .bool false), (38, .bool false), (39, undef), (40, undef), (41, undef), (42, undef), (43, .bool false), (44, .bool false), (45, undef), (46, undef), (47, .bool false), (48, .bool false), (49, undef), (50, undef), (51, undef), (52, .bool false), (53, .bool false), (54, undef), (55, undef), (56, undef), (57, .bool false), (58, .bool false), (59, undef), (60, undef), (61, undef), (62, undef), (63, .bool false), (64, .bool false), (65, undef), (66, undef), (67, undef), (68, .bool false), (0, .bool false)] [((bif (y9.2.2 == 0) == true then 0 else -1), 1), ((bif y9.2.1 == false then 0 else -1), 1)] trivial ⟨(bndEq hc38), (bndEq hc39), trivial⟩ (by kernel_rfl) (by kernel_rfl) (by kernel_rfl) ?_
      refine r_out (by kernel_rfl) ?_
      replace H := Option.some.inj H
      subst H
      exact go_return (.bool false) Tryd.func10 (by kernel_rfl) ⟨rfl, hI.pick [] (by decide) rfl⟩
  · refine o_batch 0 [] [.p, .p, .c false, .p, .p, .p, .p, .p, .p, .p, .p, .p, .p, .p, .p, .p, .p, .p, .p, .p, .p, .p, .p, .p, .p, .p, .p, .p, .p, .p, .p, .p, .p, .p, .p, .p, .p, .p, .p, .p, .p, .p, .p, .p, .p, .p, .p, .p] [(22, .int .i64 y9.2.2), (23, .bool (y9.2.2 == 0)), (24, .bool false), (25, undef), (26, .bool false), (27, .bool false), (28, undef), (29, undef), (30, undef), (31, .bool false), (32, .bool false), (33, undef), (34, undef), (35, undef), (36, undef), (37, .bool false), (38, .bool false), (39, undef), (40, undef), (41, undef), (42, undef), (43, .bool false), (44, .bool false), (45, undef), (46, undef), (47, .bool false), (48, .bool false), (49, undef), (50, undef), (51, undef), (52, .bool false), (53, .bool false), (54, undef), (55, undef), (56, undef), (57, .bool false), (58, .bool false), (59, undef), (60, undef), (61, undef), (62, undef), (63, .bool false), (64, .bool false), (65, undef), (66, undef), (67, undef), (68, .bool false), (0, .bool false)] [((bif (y9.2.2 == 0) == false then 0 else -1), 1)] trivial ⟨(bndEq hc38), trivial⟩ (by kernel_rfl) (by kernel_rfl) (by kernel_rfl) ?_
    refine r_out (by kernel_rfl) ?_
    replace H := Option.some.inj H
    subst H
    exact go_return (.bool false) Tryd.func10 (by kernel_rfl) ⟨rfl, hI.pick [] (by decide) rfl⟩

/-! ### graph.Closure -/
theorem enter14 (a : Array Value) : Sem.pureRun Tryd.prog (callFunc 14 a) = some (.enter 14 a) := by kernel_rfl
theorem graph_Closure_calls (a0 : Graph) (A0z0 : Option Addr) (c0z0 : Nat) (a1 : Int) (M : Mem) (w : World) (hI : Inv M w []) (hT : TabM M.blk) (hr0z0 : rdS kEdge M.blk A0z0 a0.Edges) (hl0z0 : a0.Edges.length ≤ c0z0) (r : (List (List Bool)) × Int) (H : graph_Closure a0 a1 = some r) :
    Calls Tryd.prog 14 #[.agg #[.int .i64 a0.N, .slice A0z0 a0.Edges.length c0z0], .int .i64 a1] w fun e w' => ∃ (A268 : Option Addr) (c269 : Nat), e = .returned (.tuple #[.slice A268 r.1.length c269, .int .i64 r.2]) ∧ Inv M w' [.row (tSlice 4 tBool) 27 A268 r.1.length c269 r.1] := by
  refine calls_go (updL (fun _ => undef) [(0, .agg #[.int .i64 a0.N, .slice A0z0 a0.Edges.length c0z0]), (1, .int .i64 a1)]) Tryd.func14 rfl (by kernel_rfl) ?_
  intro cs
  unfold graph_Closure at H
  refine go_seq ?_
  refine r_in ?_
  refine o_eff 0 _ rfl (by kernel_rfl) ?_
  refine e_box 24 _ (.agg #[.int .i64 a0.N, .slice A0z0 a0.Edges.length c0z0]) [.int .i64 a0.N, .slice A0z0 a0.Edges.length c0z0] rfl (by kernel_rfl) rfl hI ?_
  clear hI
  intro b2 _ hI
  refine o_batch 1 [] [.p, .p] [(4, .slice none 0 0), (5, .int .i64 0)] [] trivial trivial (by kernel_rfl) (by kernel_rfl) (by kernel_rfl) ?_
  refine r_out (by kernel_rfl) ?_
  refine go_seq ?_
  refine go_seq ?_
  refine r_in ?_
  refine o_batch 0 [(b2, 0, [.int .i64 a0.N, .slice A0z0 a0.Edges.length c0z0])] [.l 0 0] [(10, .agg #[.int .i64 a0.N, .slice A0z0 a0.Edges.length c0z0])] [] ⟨(hI.grp 0 rfl), trivial⟩ trivial (by kernel_rfl) (by kernel_rfl) (by kernel_rfl) ?_
  replace H := bind_some H
  obtain ⟨y8, hy9, H⟩ := H
  refine o_eff 1 _ rfl (by kernel_rfl) ?_
  refine e_callf _ _ _ 18 #[] #[] #[.agg #[.int .i64 a0.N, .slice A0z0 a0.Edges.length c0z0]] #[.agg #[.int .i64 a0.N, .slice A0z0 a0.Edges.length c0z0]] rfl (by kernel_rfl) (by kernel_rfl) (by kernel_rfl) (enter18 _) (graph_Check_calls a0 A0z0 c0z0 (memOf _) _ (Inv.start _) (hI.rd hr0z0) hl0z0 _ hy9) ?_
  rintro _ _ ⟨rfl, hI'⟩
  replace hI := hI.call0 hI'
  clear hI'
  refine ⟨_, rfl, ?_⟩
  refine o_batch 2 [] [.p] [(6, .int .i64 y8)] [] trivial trivial (by kernel_rfl) (by kernel_rfl) (by kernel_rfl) ?_
  refine r_out (by kernel_rfl) ?_
  refine go_seq ?_
  refine r_in ?_
  refine o_batch 0 [] [.p, .p] [(12, .int .i64 y8), (13, .bool (y8 != 0))] [] trivial trivial (by kernel_rfl) (by kernel_rfl) (by kernel_rfl) ?_
  refine r_out (by kernel_rfl) ?_
  replace H := cond_some H
  rcases H with ⟨hc10, H⟩ | ⟨hc10, H⟩
  · refine go_then' (t := (y8 != 0)) (by kernel_rfl) hc10 ?_
    refine go_seq ?_
    refine r_in ?_
    refine o_batch 0 [] [.p, .p, .p] [(14, .int .i64 y8), (4, .slice none 0 0), (5, .int .i64 y8)] [] trivial trivial (by kernel_rfl) (by kernel_rfl) (by kernel_rfl) ?_
    refine r_out (by kernel_rfl) ?_
    replace H := Option.some.inj H
    subst H
    exact go_return (.tuple #[.slice none 0 0, .int .i64 y8]) Tryd.func14 (by kernel_rfl) ⟨none, 0, rfl, (hI.nilrow (tSlice 4 tBool) 27).pick [1] (by decide) rfl⟩
  · refine go_else' (t := (y8 != 0)) (by kernel_rfl) hc10 ?_
    refine go_skip ?_
    refine go_seq ?_
    refine r_in ?_
    refine o_batch 0 [(b2, 0, [.int .i64 a0.N, .slice A0z0 a0.Edges.length c0z0])] [.l 0 0, .p] [(15, .agg #[.int .i64 a0.N, .slice A0z0 a0.Edges.length c0z0]), (16, .int .i64 a1)] [] ⟨(hI.grp 0 rfl), trivial⟩ trivial (by kernel_rfl) (by kernel_rfl) (by kernel_rfl) ?_
    replace H := bind_some H
    obtain ⟨y15, hy16, H⟩ := H
    refine o_eff 2 _ rfl (by kernel_rfl) ?_
    refine e_callf _ _ _ 32 #[] #[] #[.agg #[.int .i64 a0.N, .slice A0z0 a0.Edges.length c0z0], .int .i64 a1] #[.agg #[.int .i64 a0.N, .slice A0z0 a0.Edges.length c0z0], .int .i64 a1] rfl (by kernel_rfl) (by kernel_rfl) (by kernel_rfl) (enter32 _) (graph_rows_calls a0 A0z0 c0z0 a1 (memOf _) _ (Inv.start _) (hI.rd hr0z0) hl0z0 _ hy16) ?_
    rintro _ _ ⟨A17, c18, rfl, hI'⟩
    replace hI := hI.call0 hI'
    clear hI'
    refine ⟨_, rfl, ?_⟩
    refine o_batch 3 [] [.p] [(7, .slice A17 y15.length c18)] [] trivial trivial (by kernel_rfl) (by kernel_rfl) (by kernel_rfl) ?_
    refine r_out (by kernel_rfl) ?_
    refine go_seq ?_
    refine r_in ?_
    refine o_batch 0 [(b2, 0, [.int .i64 a0.N, .slice A0z0 a0.Edges.length c0z0])] [.p, .l 0 0] [(18, .pointer (some ⟨b2, 0, none⟩)), (19, .int .i64 a0.N)] [] ⟨(hI.grp 0 rfl), trivial⟩ trivial (by kernel_rfl) (by kernel_rfl) (by kernel_rfl) ?_
    replace H := must_some H
    obtain ⟨g21, H⟩ := H
    refine o_eff 2 _ rfl (by kernel_rfl) ?_
    refine e_make (tSlice 4 tBool) (default : List Bool) 31 27 _ _ _ (.slice none 0 0) a0.N rfl rfl rfl rfl rfl rfl (fun _ => ⟨none, 0, rfl, rowOwn.nil⟩) (by kernel_rfl) (by kernel_rfl) g21 hI ?_
    clear hI
    intro b22 _ hI
    refine o_batch 3 [] [.p] [(8, .slice (some ⟨b22, 0, none⟩) a0.N.toNat a0.N.toNat)] [] trivial trivial (by kernel_rfl) (by kernel_rfl) (by kernel_rfl) ?_
    refine r_out (by kernel_rfl) ?_
    refine go_seq ?_
    refine go_seq ?_
    refine r_in ?_
    refine o_batch 0 [] [.p, .p, .p] [(21, .slice (some ⟨b22, 0, none⟩) a0.N.toNat a0.N.toNat), (22, .int .i64 (a0.N.toNat : Int)), (23, .int .i64 0)] [] trivial trivial (by kernel_rfl) (by kernel_rfl) (by kernel_rfl) ?_
    refine r_out (by kernel_rfl) ?_
    refine go_block ?_
    refine go_is 8 (.slice (some ⟨b22, 0, none⟩) a0.N.toNat a0.N.toNat) (.slice (some ⟨b22, 0, none⟩) ((List.replicate a0.N.toNat (default : List Bool)).length) a0.N.toNat) (by kernel_rfl) (by first | rfl | simp only [List.length_set, List.length_replicate, List.length_nil]) ?_
    replace hI := hI.renum 2 rfl
    refine go_iter (graph_Closure.s1 a0 y15) (fun (l216, x219) f w => ∃ (j : Nat → Value) (A217 : Option Addr) (c218 : Nat), f = updL j [(2, .pointer (some ⟨b2, 0, none⟩)), (7, .slice A17 y15.length c18), (8, .slice A217 l216.length c218), (22, .int .i64 (a0.N.toNat : Int)), (23, .int .i64 x219)] ∧ Inv M w [.blk b2 24 [.int .i64 a0.N, .slice A0z0 a0.Edges.length c0z0], .row (tInt .u64) 54 A17 y15.length c18 y15, .row (tSlice 4 tBool) 27 A217 l216.length c218 l216]) H ⟨_, (some ⟨b22, 0, none⟩), a0.N.toNat, at_slots _ (by kernel_rfl), hI⟩ ?_
    clear H hI
    rintro ⟨l216, x219⟩ _ _ o1 H ⟨_, A217, c218, rfl, hI⟩ hin1 hout1
    refine go_seq ?_
    refine r_in ?_
    refine o_batch 0 [] [.p] [(24, .bool (decide (x219 < (a0.N.toNat : Int))))] [] trivial trivial (by kernel_rfl) (by kernel_rfl) (by kernel_rfl) ?_
    refine r_out (by kernel_rfl) ?_
    refine go_seq ?_
    replace H := cond_some H
    rcases H with ⟨hc221, H⟩ | ⟨hc221, H⟩
    · refine go_then' (t := decide (x219 < (a0.N.toNat : Int))) (by kernel_rfl) hc221 ?_
      refine go_skip ?_
      refine go_seq ?_
      refine go_block ?_
      refine go_seq ?_
      refine r_in ?_
      refine o_batch 0 [] [.p, .p] [(25, .int .i64 x219), (9, .int .i64 x219)] [] trivial trivial (by kernel_rfl) (by kernel_rfl) (by kernel_rfl) ?_
      refine r_out (by kernel_rfl) ?_
      replace H := bind_some H
      obtain ⟨y252, hy253, H⟩ := H
      replace H := bind_some H
      obtain ⟨y254, hy255, H⟩ := H
      replace H := must_some H
      obtain ⟨g258, H⟩ := H
      obtain ⟨b259, rfl⟩ := hI.rowAt 2 rfl g258
      obtain ⟨cs262, hk261, hg260⟩ := rdS.look (hI.row 2 rfl) (hI.rowlen 2 rfl) g258
      obtain ⟨A263, c264, rfl, hl266, hr265⟩ := hk261
      refine go_held (fun w => Inv M w [.blk b2 24 [.int .i64 a0.N, .slice A0z0 a0.Edges.length c0z0], .row (tInt .u64) 54 A17 y15.length c18 y15]) (by kernel_rfl) ?_
      replace hI := hI.drew'
      refine held_batch (n := 4) [(b2, 0, [.int .i64 a0.N, .slice A0z0 a0.Edges.length c0z0])] [(0, .p), (1, .p), (2, .p), (3, .p), (5, .p), (6, .l 0 0)] [(26, .slice (some ⟨b259, 0, none⟩) l216.length c218), (27, .int .i64 x219), (28, .slice A17 y15.length c18), (29, .int .i64 x219), (31, .pointer (some ⟨b2, 0, none⟩)), (32, .int .i64 a0.N)] [] [true, true, true, true, false, true, true, false, false, false] (by kernel_rfl) (fun w hS => ⟨(hS.grp 0 rfl), trivial⟩) (hI.pick [0, 1] (by decide) rfl) trivial (by kernel_rfl) (by kernel_rfl) (by kernel_rfl) ?_
      refine held_one (n := 3) 4 _ rfl (by kernel_rfl) (by kernel_rfl) (e_callf _ _ _ 31 #[] #[] #[.slice A17 y15.length c18, .int .i64 x219] #[.slice A17 y15.length c18, .int .i64 x219] rfl (by kernel_rfl) (by kernel_rfl) (by kernel_rfl) (enter31 _) (graph_from_calls A17 c18 y15 x219 (memOf _) _ (Inv.start _) (hI.rd hT) (hI.row 1 rfl) (hI.rowle 1 rfl) _ hy253) ?_)
      rintro _ _ ⟨rfl, hI'⟩
      replace hI := hI.call0 hI'
      clear hI'
      refine ⟨_, rfl, ?_⟩
      refine ⟨(hI.pick [0, 1] (by decide) rfl), ?_⟩
      refine held_one (n := 2) 7 _ rfl (by kernel_rfl) (by kernel_rfl) (e_callf _ _ _ 30 #[] #[] #[.int .u64 y252, .int .i64 a0.N] #[.int .u64 y252, .int .i64 a0.N] rfl (by kernel_rfl) (by kernel_rfl) (by kernel_rfl) (enter30 _) (graph_spread_calls y252 a0.N (memOf _) _ (Inv.start _) _ hy255) ?_)
      rintro _ _ ⟨A256, c257, rfl, hI'⟩
      replace hI := hI.call0 hI'
      clear hI'
      refine ⟨_, rfl, ?_⟩
      refine ⟨(hI.pick [0, 1] (by decide) rfl), ?_⟩
      refine held_batch (n := 1) [] [(8, .x)] [(34, .pointer (some ⟨b259, 0 + x219.toNat * 1, none⟩))] [(x219, l216.length)] [true, true, true, true, true, true, true, true, true, false] (by kernel_rfl) (fun w hS => trivial) (hI.pick [0, 1] (by decide) rfl) ⟨g258, trivial⟩ (by kernel_rfl) (by kernel_rfl) (by kernel_rfl) ?_
      refine held_one (n := 0) 9 _ rfl (by kernel_rfl) (by kernel_rfl) (e_putown 27 _ _ 2 [3] [0, 1] b259 27 l216.length c218 l216 y254 x219 (.slice A256 y254.length c257) [.row tBool 4 A256 y254.length c257 y254] [.blk b2 24 [.int .i64 a0.N, .slice A0z0 a0.Edges.length c0z0], .row (tInt .u64) 54 A17 y15.length c18 y15] rfl (by kernel_rfl) (by kernel_rfl) (by kernel_rfl) (by kernel_rfl) hI (by decide) rfl g258 mk_row ?_)
      clear hI
      intro _ hI
      refine ⟨(hI.pick [1, 2] (by decide) rfl), ?_⟩
      refine held_done (by kernel_rfl) ?_
      refine go_inBlock ?_
      refine r_in ?_
      refine o_batch 0 [] [.p, .p] [(35, .int .i64 (w64 (x219 + 1))), (23, .int .i64 (w64 (x219 + 1)))] [] trivial trivial (by kernel_rfl) (by kernel_rfl) (by kernel_rfl) ?_
      refine r_out (by kernel_rfl) ?_
      refine go_is 8 (.slice (some ⟨b259, 0, none⟩) l216.length c218) (.slice (some ⟨b259, 0, none⟩) ((l216.set x219.toNat y254).length) c218) (by kernel_rfl) (by first | rfl | simp only [List.length_set, List.length_replicate, List.length_nil]) ?_
      replace hI := hI.renum 0 rfl
      exact hin1 _ (Option.some.inj H).symm _ _ ⟨_, (some ⟨b259, 0, none⟩), c218, at_slots _ (by kernel_rfl), hI.pick [1, 2, 0] (by decide) rfl⟩
    · refine go_else' (t := decide (x219 < (a0.N.toNat : Int))) (by kernel_rfl) hc221 ?_
      refine go_exit rfl ?_
      refine go_seq ?_
      refine r_in ?_
      refine o_batch 0 [] [.p, .p, .p] [(36, .slice A217 l216.length c218), (4, .slice A217 l216.length c218), (5, .int .i64 0)] [] trivial trivial (by kernel_rfl) (by kernel_rfl) (by kernel_rfl) ?_
      refine r_out (by kernel_rfl) ?_
      replace H := out_some H
      obtain ⟨_, H, he1⟩ := H
      have he := (hout1 _ he1).symm
      subst he
      replace H := Option.some.inj H
      subst H
      exact go_return (.tuple #[.slice A217 l216.length c218, .int .i64 0]) Tryd.func14 (by kernel_rfl) ⟨A217, c218, rfl, hI.pick [2] (by decide) rfl⟩

/-! ### graph.walk .enter -/
theorem enter43 (a : Array Value) : Sem.pureRun Tryd.prog (callFunc 43 a) = some (.enter 43 a) := by kernel_rfl
theorem graph_walk_enter_calls (b0z : Nat) (a0 : GraphWalk) (A0z0 : Option Addr) (c0z0 : Nat) (A0z1 : Option Addr) (c0z1 : Nat) (A0z2 : Option Addr) (c0z2 : Nat) (A0z3 : Option Addr) (c0z3 : Nat) (A0z4 : Option Addr) (c0z4 : Nat) (a1 : Int) (M : Mem) (w : World) (hI : Inv M w [.blk b0z 65 [.slice A0z0 a0.steps.length c0z0, .slice A0z1 a0.num.length c0z1, .slice A0z2 a0.low.length c0z2, .slice A0z3 a0.part.length c0z3, .slice A0z4 a0.open_.length c0z4, .int .i64 a0.count, .int .i64 a0.parts], .row (tInt .u64) 54 A0z0 a0.steps.length c0z0 a0.steps, .row (tInt .i64) 3 A0z1 a0.num.length c0z1 a0.num, .row (tInt .i64) 3 A0z2 a0.low.length c0z2 a0.low, .row (tInt .i64) 3 A0z3 a0.part.length c0z3 a0.part, .row (tInt .i64) 3 A0z4 a0.open_.length c0z4 a0.open_]) (r : GraphWalk) (H : graph_walk_enter a0 a1 = some r) :
    Calls Tryd.prog 43 #[.pointer (some ⟨b0z, 0, none⟩), .int .i64 a1] w fun e w' => ∃ (A14 : Option Addr) (c15 : Nat), ∃ (A16 : Option Addr) (c17 : Nat), ∃ (A18 : Option Addr) (c19 : Nat), ∃ (A20 : Option Addr) (c21 : Nat), ∃ (A22 : Option Addr) (c23 : Nat), e = .returned (.tuple #[]) ∧ Inv M w' [.blk b0z 65 [.slice A14 r.steps.length c15, .slice A16 r.num.length c17, .slice A18 r.low.length c19, .slice A20 r.part.length c21, .slice A22 r.open_.length c23, .int .i64 r.count, .int .i64 r.parts], .row (tInt .u64) 54 A14 r.steps.length c15 r.steps, .row (tInt .i64) 3 A16 r.num.length c17 r.num, .row (tInt .i64) 3 A18 r.low.length c19 r.low, .row (tInt .i64) 3 A20 r.part.length c21 r.part, .row (tInt .i64) 3 A22 r.open_.length c23 r.open_] := by
  refine calls_go (updL (fun _ => undef) [(0, .pointer (some ⟨b0z, 0, none⟩)), (1, .int .i64 a1)]) Tryd.func43 rfl (by kernel_rfl) ?_
  intro cs
  unfold graph_walk_enter at H
  refine go_seq ?_
  refine r_in ?_
  refine o_batch 0 [(b0z, 0, [.slice A0z0 a0.steps.length c0z0, .slice A0z1 a0.num.length c0z1, .slice A0z2 a0.low.length c0z2, .slice A0z3 a0.part.length c0z3, .slice A0z4 a0.open_.length c0z4, .int .i64 a0.count, .int .i64 a0.parts])] [.p, .p, .p, .l 0 5, .p, .p, .p] [(4, .pointer (some ⟨b0z, 0, none⟩)), (5, .pointer (some ⟨b0z, 0, none⟩)), (6, .pointer (some ⟨b0z, 5, none⟩)), (7, .int .i64 a0.count), (8, .int .i64 (w64 (a0.count + 1))), (9, .pointer (some ⟨b0z, 0, none⟩)), (10, .pointer (some ⟨b0z, 5, none⟩))] [] ⟨(hI.grp 0 rfl), trivial⟩ trivial (by kernel_rfl) (by kernel_rfl) (by kernel_rfl) ?_
  refine o_eff 7 _ rfl (by kernel_rfl) ?_
  refine e_store 3 _ _ 0 b0z 65 [.slice A0z0 a0.steps.length c0z0, .slice A0z1 a0.num.length c0z1, .slice A0z2 a0.low.length c0z2, .slice A0z3 a0.part.length c0z3, .slice A0z4 a0.open_.length c0z4, .int .i64 a0.count, .int .i64 a0.parts] [.slice A0z0 a0.steps.length c0z0, .slice A0z1 a0.num.length c0z1, .slice A0z2 a0.low.length c0z2, .slice A0z3 a0.part.length c0z3, .slice A0z4 a0.open_.length c0z4, .int .i64 (w64 (a0.count + 1)), .int .i64 a0.parts] 5 (.int .i64 (w64 (a0.count + 1))) rfl (by kernel_rfl) (by kernel_rfl) (by kernel_rfl) (by kernel_rfl) hI rfl (by kernel_rfl) (by kernel_rfl) ?_
  clear hI
  intro _ hI
  refine r_out (by kernel_rfl) ?_
  refine go_seq ?_
  replace H := must_some H
  obtain ⟨g5, H⟩ := H
  obtain ⟨b6, rfl⟩ := hI.rowAt 2 rfl g5
  replace H := must_some H
  obtain ⟨g7, H⟩ := H
  obtain ⟨b8, rfl⟩ := hI.rowAt 3 rfl g7
  refine go_held (fun w => Inv M w [.blk b0z 65 [.slice A0z0 a0.steps.length c0z0, .slice (some ⟨b6, 0, none⟩) a0.num.length c0z1, .slice (some ⟨b8, 0, none⟩) a0.low.length c0z2, .slice A0z3 a0.part.length c0z3, .slice A0z4 a0.open_.length c0z4, .int .i64 (w64 (a0.count + 1)), .int .i64 a0.parts], .row (tInt .u64) 54 A0z0 a0.steps.length c0z0 a0.steps, .row (tInt .i64) 3 A0z3 a0.part.length c0z3 a0.part, .row (tInt .i64) 3 A0z4 a0.open_.length c0z4 a0.open_]) (by kernel_rfl) ?_
  replace hI := hI.drew'
  refine held_batch (n := 3) [(b0z, 0, [.slice A0z0 a0.steps.length c0z0, .slice (some ⟨b6, 0, none⟩) a0.num.length c0z1, .slice (some ⟨b8, 0, none⟩) a0.low.length c0z2, .slice A0z3 a0.part.length c0z3, .slice A0z4 a0.open_.length c0z4, .int .i64 (w64 (a0.count + 1)), .int .i64 a0.parts])] [(0, .p), (1, .p), (2, .p), (3, .l 0 1), (4, .p), (5, .p), (6, .p), (7, .p), (8, .l 0 2), (9, .p), (10, .p), (11, .p), (12, .p), (13, .l 0 5), (14, .p), (15, .p), (16, .p), (17, .l 0 5), (18, .x)] [(11, .pointer (some ⟨b0z, 0, none⟩)), (12, .pointer (some ⟨b0z, 0, none⟩)), (13, .pointer (some ⟨b0z, 1, none⟩)), (14, .slice (some ⟨b6, 0, none⟩) a0.num.length c0z1), (15, .int .i64 a1), (16, .pointer (some ⟨b0z, 0, none⟩)), (17, .pointer (some ⟨b0z, 0, none⟩)), (18, .pointer (some ⟨b0z, 2, none⟩)), (19, .slice (some ⟨b8, 0, none⟩) a0.low.length c0z2), (20, .int .i64 a1), (21, .pointer (some ⟨b0z, 0, none⟩)), (22, .pointer (some ⟨b0z, 0, none⟩)), (23, .pointer (some ⟨b0z, 5, none⟩)), (24, .int .i64 (w64 (a0.count + 1))), (25, .pointer (some ⟨b0z, 0, none⟩)), (26, .pointer (some ⟨b0z, 0, none⟩)), (27, .pointer (some ⟨b0z, 5, none⟩)), (28, .int .i64 (w64 (a0.count + 1))), (29, .pointer (some ⟨b6, 0 + a1.toNat * 1, none⟩))] [(a1, a0.num.length)] [true, true, true, true, true, true, true, true, true, true, true, true, true, true, true, true, true, true, true, false, false, false] (by kernel_rfl) (fun w hS => ⟨(hS.grp 0 rfl), trivial⟩) (hI.pick [0, 1, 4, 5] (by decide) rfl) ⟨g5, trivial⟩ (by kernel_rfl) (by kernel_rfl) (by kernel_rfl) ?_
  refine held_one (n := 2) 19 _ rfl (by kernel_rfl) (by kernel_rfl) (e_put 3 _ _ 2 b6 3 a0.num.length c0z1 a0.num (w64 (a0.count + 1)) a1 0 (.int .i64 (w64 (a0.count + 1))) rfl (by kernel_rfl) (by kernel_rfl) (by kernel_rfl) (by kernel_rfl) hI rfl g5 (by kernel_rfl) (by kernel_rfl) ?_)
  clear hI
  intro _ hI
  refine ⟨(hI.pick [0, 1, 4, 5] (by decide) rfl), ?_⟩
  refine held_batch (n := 1) [] [(20, .x)] [(30, .pointer (some ⟨b8, 0 + a1.toNat * 1, none⟩))] [(a1, a0.low.length)] [true, true, true, true, true, true, true, true, true, true, true, true, true, true, true, true, true, true, true, true, true, false] (by kernel_rfl) (fun w hS => trivial) (hI.pick [0, 1, 4, 5] (by decide) rfl) ⟨g7, trivial⟩ (by kernel_rfl) (by kernel_rfl) (by kernel_rfl) ?_
  refine held_one (n := 0) 21 _ rfl (by kernel_rfl) (by kernel_rfl) (e_put 3 _ _ 3 b8 3 a0.low.length c0z2 a0.low (w64 (a0.count + 1)) a1 0 (.int .i64 (w64 (a0.count + 1))) rfl (by kernel_rfl) (by kernel_rfl) (by kernel_rfl) (by kernel_rfl) hI rfl g7 (by kernel_rfl) (by kernel_rfl) ?_)
  clear hI
  intro _ hI
  refine ⟨(hI.pick [0, 1, 4, 5] (by decide) rfl), ?_⟩
  refine held_done (by kernel_rfl) ?_
  refine r_in ?_
  refine o_batch 0 [(b0z, 0, [.slice A0z0 a0.steps.length c0z0, .slice (some ⟨b6, 0, none⟩) a0.num.length c0z1, .slice (some ⟨b8, 0, none⟩) a0.low.length c0z2, .slice A0z3 a0.part.length c0z3, .slice A0z4 a0.open_.length c0z4, .int .i64 (w64 (a0.count + 1)), .int .i64 a0.parts])] [.p, .p, .p, .p, .l 0 4, .p] [(31, .pointer (some ⟨b0z, 0, none⟩)), (32, .pointer (some ⟨b0z, 0, none⟩)), (33, .pointer (some ⟨b0z, 0, none⟩)), (34, .pointer (some ⟨b0z, 4, none⟩)), (35, .slice A0z4 a0.open_.length c0z4), (36, .int .i64 a1)] [] ⟨(hI.grp 0 rfl), trivial⟩ trivial (by kernel_rfl) (by kernel_rfl) (by kernel_rfl) ?_
  refine o_eff 6 _ rfl (by kernel_rfl) ?_
  refine e_parts 43 3 1 _ _ _ #[.int .i64 a1] [.int .i64 a1] rfl rfl rfl rfl (by kernel_rfl) (by kernel_rfl) (by kernel_rfl) (by kernel_rfl) hI ?_
  clear hI
  intro b9 _ hI
  replace H := must_some H
  obtain ⟨g10, H⟩ := H
  refine o_eff 7 _ rfl (by kernel_rfl) ?_
  refine e_append (tInt .i64) 43 0 3 _ _ _ _ A0z4 a0.open_.length c0z4 a0.open_ ([a1] : List Int) b9 0 1 1 [.int .i64 a1] 5 [] [0, 1, 2, 3, 4, 6] [] [.blk b0z 65 [.slice A0z0 a0.steps.length c0z0, .slice (some ⟨b6, 0, none⟩) a0.num.length c0z1, .slice (some ⟨b8, 0, none⟩) a0.low.length c0z2, .slice A0z3 a0.part.length c0z3, .slice A0z4 a0.open_.length c0z4, .int .i64 (w64 (a0.count + 1)), .int .i64 a0.parts], .row (tInt .u64) 54 A0z0 a0.steps.length c0z0 a0.steps, .row (tInt .i64) 3 (some ⟨b6, 0, none⟩) a0.num.length c0z1 (a0.num.set a1.toNat (w64 (a0.count + 1))), .row (tInt .i64) 3 (some ⟨b8, 0, none⟩) a0.low.length c0z2 (a0.low.set a1.toNat (w64 (a0.count + 1))), .row (tInt .i64) 3 A0z3 a0.part.length c0z3 a0.part, .blk b9 3 [.int .i64 a1]] rfl (by kernel_rfl) (by kernel_rfl) rfl rfl rfl rfl rfl (by kernel_rfl) hI (by decide) rfl rfl rfl (hI.grp 6 rfl) g10 (mks_cons (mk_flat (k := (tInt .i64)) a1 [.int .i64 a1] rfl) mks_nil) ?_
  clear hI
  intro A11 c12 _ hI
  replace hI := hI.pick (L' := [.row (tInt .i64) 3 A11 ((a0.open_ ++ ([a1] : List Int)).length) c12 (a0.open_ ++ ([a1] : List Int)), .blk b0z 65 [.slice A0z0 a0.steps.length c0z0, .slice (some ⟨b6, 0, none⟩) a0.num.length c0z1, .slice (some ⟨b8, 0, none⟩) a0.low.length c0z2, .slice A0z3 a0.part.length c0z3, .slice A0z4 a0.open_.length c0z4, .int .i64 (w64 (a0.count + 1)), .int .i64 a0.parts], .row (tInt .u64) 54 A0z0 a0.steps.length c0z0 a0.steps, .row (tInt .i64) 3 (some ⟨b6, 0, none⟩) a0.num.length c0z1 (a0.num.set a1.toNat (w64 (a0.count + 1))), .row (tInt .i64) 3 (some ⟨b8, 0, none⟩) a0.low.length c0z2 (a0.low.set a1.toNat (w64 (a0.count + 1))), .row (tInt .i64) 3 A0z3 a0.part.length c0z3 a0.part]) [0, 1, 2, 3, 4, 5] (by decide) rfl
  refine o_batch 8 [] [.p, .p] [(39, .pointer (some ⟨b0z, 0, none⟩)), (40, .pointer (some ⟨b0z, 4, none⟩))] [] trivial trivial (by kernel_rfl) (by kernel_rfl) (by kernel_rfl) ?_
  refine o_eff 10 _ rfl (by kernel_rfl) ?_
  refine e_store 43 _ _ 1 b0z 65 [.slice A0z0 a0.steps.length c0z0, .slice (some ⟨b6, 0, none⟩) a0.num.length c0z1, .slice (some ⟨b8, 0, none⟩) a0.low.length c0z2, .slice A0z3 a0.part.length c0z3, .slice A0z4 a0.open_.length c0z4, .int .i64 (w64 (a0.count + 1)), .int .i64 a0.parts] [.slice A0z0 a0.steps.length c0z0, .slice (some ⟨b6, 0, none⟩) a0.num.length c0z1, .slice (some ⟨b8, 0, none⟩) a0.low.length c0z2, .slice A0z3 a0.part.length c0z3, .slice A11 ((a0.open_ ++ ([a1] : List Int)).length) c12, .int .i64 (w64 (a0.count + 1)), .int .i64 a0.parts] 4 (.slice A11 ((a0.open_ ++ ([a1] : List Int)).length) c12) rfl (by kernel_rfl) (by kernel_rfl) (by kernel_rfl) (by kernel_rfl) hI rfl (by kernel_rfl) (by kernel_rfl) ?_
  clear hI
  intro _ hI
  refine r_out (by kernel_rfl) ?_
  replace hI := hI.recell 1 [.slice A0z0 a0.steps.length c0z0, .slice (some ⟨b6, 0, none⟩) ((a0.num.set a1.toNat (w64 (a0.count + 1))).length) c0z1, .slice (some ⟨b8, 0, none⟩) ((a0.low.set a1.toNat (w64 (a0.count + 1))).length) c0z2, .slice A0z3 a0.part.length c0z3, .slice A11 ((a0.open_ ++ ([a1] : List Int)).length) c12, .int .i64 (w64 (a0.count + 1)), .int .i64 a0.parts] (by first | rfl | simp only [List.length_set, List.length_replicate, List.length_nil]) rfl
  replace hI := hI.renum 3 rfl
  replace hI := hI.renum 4 rfl
  replace H := Option.some.inj H
  subst H
  exact go_finish (.tuple #[]) Tryd.func43 (by kernel_rfl) ⟨A0z0, c0z0, (some ⟨b6, 0, none⟩), c0z1, (some ⟨b8, 0, none⟩), c0z2, A0z3, c0z3, A11, c12, rfl, hI.pick [1, 2, 3, 4, 5, 0] (by decide) rfl⟩

/-! ### graph.walk .shut -/
theorem enter44 (a : Array Value) : Sem.pureRun Tryd.prog (callFunc 44 a) = some (.enter 44 a) := by kernel_rfl
theorem graph_walk_shut_calls (b0z : Nat) (a0 : GraphWalk) (A0z0 : Option Addr) (c0z0 : Nat) (A0z1 : Option Addr) (c0z1 : Nat) (A0z2 : Option Addr) (c0z2 : Nat) (A0z3 : Option Addr) (c0z3 : Nat) (A0z4 : Option Addr) (c0z4 : Nat) (a1 : Int) (M : Mem) (w : World) (hI : Inv M w [.blk b0z 65 [.slice A0z0 a0.steps.length c0z0, .slice A0z1 a0.num.length c0z1, .slice A0z2 a0.low.length c0z2, .slice A0z3 a0.part.length c0z3, .slice A0z4 a0.open_.length c0z4, .int .i64 a0.count, .int .i64 a0.parts], .row (tInt .u64) 54 A0z0 a0.steps.length c0z0 a0.steps, .row (tInt .i64) 3 A0z1 a0.num.length c0z1 a0.num, .row (tInt .i64) 3 A0z2 a0.low.length c0z2 a0.low, .row (tInt .i64) 3 A0z3 a0.part.length c0z3 a0.part, .row (tInt .i64) 3 A0z4 a0.open_.length c0z4 a0.open_]) (r : GraphWalk) (H : graph_walk_shut a0 a1 = some r) :
    Calls Tryd.prog 44 #[.pointer (some ⟨b0z, 0, none⟩), .int .i64 a1] w fun e w' => ∃ (A121 : Option Addr) (c122 : Nat), ∃ (A123 : Option Addr) (c124 : Nat), ∃ (A125 : Option Addr) (c126 : Nat), ∃ (A127 : Option Addr) (c128 : Nat), ∃ (A129 : Option Addr) (c130 : Nat), e = .returned (.tuple #[]) ∧ Inv M w' [.blk b0z 65 [.slice A121 r.steps.length c122, .slice A123 r.num.length c124, .slice A125 r.low.length c126, .slice A127 r.part.length c128, .slice A129 r.open_.length c130, .int .i64 r.count, .int .i64 r.parts], .row (tInt .u64) 54 A121 r.steps.length c122 r.steps, .row (tInt .i64) 3 A123 r.num.length c124 r.num, .row (tInt .i64) 3 A125 r.low.length c126 r.low, .row (tInt .i64) 3 A127 r.part.length c128 r.part, .row (tInt .i64) 3 A129 r.open_.length c130 r.open_] := by
  refine calls_go (updL (fun _ => undef) [(0, .pointer (some ⟨b0z, 0, none⟩)), (1, .int .i64 a1)]) Tryd.func44 rfl (by kernel_rfl) ?_
  intro cs
  unfold graph_walk_shut at H
  refine go_seq ?_
  refine r_in ?_
  refine o_batch 0 [(b0z, 0, [.slice A0z0 a0.steps.length c0z0, .slice A0z1 a0.num.length c0z1, .slice A0z2 a0.low.length c0z2, .slice A0z3 a0.part.length c0z3, .slice A0z4 a0.open_.length c0z4, .int .i64 a0.count, .int .i64 a0.parts])] [.p, .p, .p, .l 0 6, .p, .p, .p] [(5, .pointer (some ⟨b0z, 0, none⟩)), (6, .pointer (some ⟨b0z, 0, none⟩)), (7, .pointer (some ⟨b0z, 6, none⟩)), (8, .int .i64 a0.parts), (9, .int .i64 (w64 (a0.parts + 1))), (10, .pointer (some ⟨b0z, 0, none⟩)), (11, .pointer (some ⟨b0z, 6, none⟩))] [] ⟨(hI.grp 0 rfl), trivial⟩ trivial (by kernel_rfl) (by kernel_rfl) (by kernel_rfl) ?_
  refine o_eff 7 _ rfl (by kernel_rfl) ?_
  refine e_store 3 _ _ 0 b0z 65 [.slice A0z0 a0.steps.length c0z0, .slice A0z1 a0.num.length c0z1, .slice A0z2 a0.low.length c0z2, .slice A0z3 a0.part.length c0z3, .slice A0z4 a0.open_.length c0z4, .int .i64 a0.count, .int .i64 a0.parts] [.slice A0z0 a0.steps.length c0z0, .slice A0z1 a0.num.length c0z1, .slice A0z2 a0.low.length c0z2, .slice A0z3 a0.part.length c0z3, .slice A0z4 a0.open_.length c0z4, .int .i64 a0.count, .int .i64 (w64 (a0.parts + 1))] 6 (.int .i64 (w64 (a0.parts + 1))) rfl (by kernel_rfl) (by kernel_rfl) (by kernel_rfl) (by kernel_rfl) hI rfl (by kernel_rfl) (by kernel_rfl) ?_
  clear hI
  intro _ hI
  refine r_out (by kernel_rfl) ?_
  refine go_block ?_
  refine go_iter (graph_walk_shut.s1 a0 a1) (fun (l97, l100) f w => ∃ (j : Nat → Value) (A98 : Option Addr) (c99 : Nat) (A101 : Option Addr) (c102 : Nat), f = updL j [(0, .pointer (some ⟨b0z, 0, none⟩)), (1, .int .i64 a1)] ∧ Inv M w [.blk b0z 65 [.slice A0z0 a0.steps.length c0z0, .slice A0z1 a0.num.length c0z1, .slice A0z2 a0.low.length c0z2, .slice A98 l97.length c99, .slice A101 l100.length c102, .int .i64 a0.count, .int .i64 (w64 (a0.parts + 1))], .row (tInt .u64) 54 A0z0 a0.steps.length c0z0 a0.steps, .row (tInt .i64) 3 A0z1 a0.num.length c0z1 a0.num, .row (tInt .i64) 3 A0z2 a0.low.length c0z2 a0.low, .row (tInt .i64) 3 A98 l97.length c99 l97, .row (tInt .i64) 3 A101 l100.length c102 l100]) H ⟨_, A0z3, c0z3, A0z4, c0z4, at_slots _ (by kernel_rfl), hI⟩ ?_
  clear H hI
  rintro ⟨l97, l100⟩ _ _ o1 H ⟨_, A98, c99, A101, c102, rfl, hI⟩ hin1 hout1
  refine go_block ?_
  refine go_seq ?_
  replace H := must_some H
  obtain ⟨g111, H⟩ := H
  obtain ⟨b112, rfl⟩ := hI.rowAt 5 rfl g111
  refine d_still [(b0z, 0, [.slice A0z0 a0.steps.length c0z0, .slice A0z1 a0.num.length c0z1, .slice A0z2 a0.low.length c0z2, .slice A98 l97.length c99, .slice (some ⟨b112, 0, none⟩) l100.length c102, .int .i64 a0.count, .int .i64 (w64 (a0.parts + 1))]), (b112, 0 + (w64 ((l100.length : Int) - 1)).toNat * 1, [.int .i64 (idx l100 (w64 ((l100.length : Int) - 1)))])] [.p, .p, .p, .l 0 4, .p, .p, .p, .l 0 4, .p, .p, .x, .l 1 0, .p] [(12, .pointer (some ⟨b0z, 0, none⟩)), (13, .pointer (some ⟨b0z, 0, none⟩)), (14, .pointer (some ⟨b0z, 4, none⟩)), (15, .slice (some ⟨b112, 0, none⟩) l100.length c102), (16, .pointer (some ⟨b0z, 0, none⟩)), (17, .pointer (some ⟨b0z, 0, none⟩)), (18, .pointer (some ⟨b0z, 4, none⟩)), (19, .slice (some ⟨b112, 0, none⟩) l100.length c102), (20, .int .i64 (l100.length : Int)), (21, .int .i64 (w64 ((l100.length : Int) - 1))), (22, .pointer (some ⟨b112, 0 + (w64 ((l100.length : Int) - 1)).toNat * 1, none⟩)), (23, .int .i64 (idx l100 (w64 ((l100.length : Int) - 1)))), (4, .int .i64 (idx l100 (w64 ((l100.length : Int) - 1))))] [(w64 ((l100.length : Int) - 1), l100.length)] (by kernel_rfl) (by kernel_rfl) rfl ⟨(hI.grp 0 rfl), (rdS.flook (hI.row 5 rfl) (hI.rowlen 5 rfl) g111).ok, trivial⟩ ⟨g111, trivial⟩ (by kernel_rfl) (by kernel_rfl) (by kernel_rfl) hI ?_
  clear hI
  intro _ hI
  refine go_seq ?_
  replace H := must_some H
  obtain ⟨g114, H⟩ := H
  refine d_tail' 14 _ [(b0z, 0, [.slice A0z0 a0.steps.length c0z0, .slice A0z1 a0.num.length c0z1, .slice A0z2 a0.low.length c0z2, .slice A98 l97.length c99, .slice (some ⟨b112, 0, none⟩) l100.length c102, .int .i64 a0.count, .int .i64 (w64 (a0.parts + 1))])] [.p, .p, .p, .p, .l 0 4, .p, .p, .p, .l 0 4, .p, .p, .x, .p, .p] [(24, .pointer (some ⟨b0z, 0, none⟩)), (25, .pointer (some ⟨b0z, 0, none⟩)), (26, .pointer (some ⟨b0z, 0, none⟩)), (27, .pointer (some ⟨b0z, 4, none⟩)), (28, .slice (some ⟨b112, 0, none⟩) l100.length c102), (29, .pointer (some ⟨b0z, 0, none⟩)), (30, .pointer (some ⟨b0z, 0, none⟩)), (31, .pointer (some ⟨b0z, 4, none⟩)), (32, .slice (some ⟨b112, 0, none⟩) l100.length c102), (33, .int .i64 (l100.length : Int)), (34, .int .i64 (w64 ((l100.length : Int) - 1))), (35, .slice (some ⟨b112, 0, none⟩) ((w64 ((l100.length : Int) - 1)).toNat) c102), (36, .pointer (some ⟨b0z, 0, none⟩)), (37, .pointer (some ⟨b0z, 4, none⟩))] [(w64 ((l100.length : Int) - 1), c102 + 1)] (by kernel_rfl) (by kernel_rfl) rfl rfl ⟨(hI.grp 0 rfl), trivial⟩ ⟨(hI.frontle 5 g114 rfl), trivial⟩ (by kernel_rfl) (by kernel_rfl) (by kernel_rfl) (by kernel_rfl) hI ?_
  clear hI
  intro _ hI hsame
  refine e_store 43 _ _ 0 b0z 65 [.slice A0z0 a0.steps.length c0z0, .slice A0z1 a0.num.length c0z1, .slice A0z2 a0.low.length c0z2, .slice A98 l97.length c99, .slice (some ⟨b112, 0, none⟩) l100.length c102, .int .i64 a0.count, .int .i64 (w64 (a0.parts + 1))] [.slice A0z0 a0.steps.length c0z0, .slice A0z1 a0.num.length c0z1, .slice A0z2 a0.low.length c0z2, .slice A98 l97.length c99, .slice (some ⟨b112, 0, none⟩) ((w64 ((l100.length : Int) - 1)).toNat) c102, .int .i64 a0.count, .int .i64 (w64 (a0.parts + 1))] 4 (.slice (some ⟨b112, 0, none⟩) ((w64 ((l100.length : Int) - 1)).toNat) c102) rfl (by kernel_rfl) (by kernel_rfl) (by kernel_rfl) (by kernel_rfl) hI rfl (by kernel_rfl) (by kernel_rfl) ?_
  clear hI
  intro _ hI
  replace hI := hI.front 5 (w64 ((l100.length : Int) - 1)) g114 rfl
  refine go_seq ?_
  replace H := must_some H
  obtain ⟨g117, H⟩ := H
  obtain ⟨b118, rfl⟩ := hI.rowAt 4 rfl g117
  refine d_tail' 10 _ [(b0z, 0, [.slice A0z0 a0.steps.length c0z0, .slice A0z1 a0.num.length c0z1, .slice A0z2 a0.low.length c0z2, .slice (some ⟨b118, 0, none⟩) l97.length c99, .slice (some ⟨b112, 0, none⟩) ((w64 ((l100.length : Int) - 1)).toNat) c102, .int .i64 a0.count, .int .i64 (w64 (a0.parts + 1))])] [.p, .p, .p, .l 0 3, .p, .p, .p, .p, .l 0 6, .x] [(38, .pointer (some ⟨b0z, 0, none⟩)), (39, .pointer (some ⟨b0z, 0, none⟩)), (40, .pointer (some ⟨b0z, 3, none⟩)), (41, .slice (some ⟨b118, 0, none⟩) l97.length c99), (42, .int .i64 (idx l100 (w64 ((l100.length : Int) - 1)))), (43, .pointer (some ⟨b0z, 0, none⟩)), (44, .pointer (some ⟨b0z, 0, none⟩)), (45, .pointer (some ⟨b0z, 6, none⟩)), (46, .int .i64 (w64 (a0.parts + 1))), (47, .pointer (some ⟨b118, 0 + (idx l100 (w64 ((l100.length : Int) - 1))).toNat * 1, none⟩))] [(idx l100 (w64 ((l100.length : Int) - 1)), l97.length)] (by kernel_rfl) (by kernel_rfl) rfl rfl ⟨(hI.grp 0 rfl), trivial⟩ ⟨g117, trivial⟩ (by kernel_rfl) (by kernel_rfl) (by kernel_rfl) (by kernel_rfl) hI ?_
  clear hI
  intro _ hI hsame
  refine e_put 3 _ _ 4 b118 3 l97.length c99 l97 (w64 (a0.parts + 1)) (idx l100 (w64 ((l100.length : Int) - 1))) 0 (.int .i64 (w64 (a0.parts + 1))) rfl (by kernel_rfl) (by kernel_rfl) (by kernel_rfl) (by kernel_rfl) hI rfl (by simpa only [List.length_set, List.length_replicate] using g117) (by kernel_rfl) (by kernel_rfl) ?_
  clear hI
  intro _ hI
  refine go_seq ?_
  refine r_in ?_
  refine o_batch 0 [] [.p, .p, .p] [(48, .int .i64 (idx l100 (w64 ((l100.length : Int) - 1)))), (49, .int .i64 a1), (50, .bool (idx l100 (w64 ((l100.length : Int) - 1)) == a1))] [] trivial trivial (by kernel_rfl) (by kernel_rfl) (by kernel_rfl) ?_
  refine r_out (by kernel_rfl) ?_
  replace H := cond_some H
  rcases H with ⟨hc119, H⟩ | ⟨hc119, H⟩
  · refine go_then' (t := (idx l100 (w64 ((l100.length : Int) - 1)) == a1)) (by kernel_rfl) hc119 ?_
    replace hI := hI.recell 0 [.slice A0z0 a0.steps.length c0z0, .slice A0z1 a0.num.length c0z1, .slice A0z2 a0.low.length c0z2, .slice (some ⟨b118, 0, none⟩) ((l97.set (idx l100 (w64 ((l100.length : Int) - 1))).toNat (w64 (a0.parts + 1))).length) c99, .slice (some ⟨b112, 0, none⟩) ((l100.take (w64 ((l100.length : Int) - 1)).toNat).length) c102, .int .i64 a0.count, .int .i64 (w64 (a0.parts + 1))] (by first | rfl | simp only [List.length_set, List.length_replicate, List.length_nil, hI.rowlen 5 rfl]) rfl
    replace hI := hI.renum 4 rfl
    replace hI := hI.renum 5 rfl
    replace H := out_some H
    obtain ⟨_, H, he1⟩ := H
    have he := (hout1 _ he1).symm
    subst he
    replace H := Option.some.inj H
    subst H
    exact go_return (.tuple #[]) Tryd.func44 (by kernel_rfl) ⟨A0z0, c0z0, A0z1, c0z1, A0z2, c0z2, (some ⟨b118, 0, none⟩), c99, (some ⟨b112, 0, none⟩), c102, rfl, hI⟩
  · refine go_else' (t := (idx l100 (w64 ((l100.length : Int) - 1)) == a1)) (by kernel_rfl) hc119 ?_
    refine go_skip ?_
    refine go_inBlock ?_
    replace hI := hI.recell 0 [.slice A0z0 a0.steps.length c0z0, .slice A0z1 a0.num.length c0z1, .slice A0z2 a0.low.length c0z2, .slice (some ⟨b118, 0, none⟩) ((l97.set (idx l100 (w64 ((l100.length : Int) - 1))).toNat (w64 (a0.parts + 1))).length) c99, .slice (some ⟨b112, 0, none⟩) ((l100.take (w64 ((l100.length : Int) - 1)).toNat).length) c102, .int .i64 a0.count, .int .i64 (w64 (a0.parts + 1))] (by first | rfl | simp only [List.length_set, List.length_replicate, List.length_nil, hI.rowlen 5 rfl]) rfl
    replace hI := hI.renum 4 rfl
    replace hI := hI.renum 5 rfl
    exact hin1 _ (Option.some.inj H).symm _ _ ⟨_, (some ⟨b118, 0, none⟩), c99, (some ⟨b112, 0, none⟩), c102, at_slots _ (by kernel_rfl), hI⟩

/-! ### graph.walk .down -/
theorem enter37 (a : Array Value) : Sem.pureRun Tryd.prog (callFunc 37 a) = some (.enter 37 a) := by kernel_rfl
theorem graph_walk_down_calls (b0z : Nat) (a0 : GraphWalk) (A0z0 : Option Addr) (c0z0 : Nat) (A0z1 : Option Addr) (c0z1 : Nat) (A0z2 : Option Addr) (c0z2 : Nat) (A0z3 : Option Addr) (c0z3 : Nat) (A0z4 : Option Addr) (c0z4 : Nat) (a1 : Int) (M : Mem) (w : World) (hI : Inv M w [.blk b0z 65 [.slice A0z0 a0.steps.length c0z0, .slice A0z1 a0.num.length c0z1, .slice A0z2 a0.low.length c0z2, .slice A0z3 a0.part.length c0z3, .slice A0z4 a0.open_.length c0z4, .int .i64 a0.count, .int .i64 a0.parts], .row (tInt .u64) 54 A0z0 a0.steps.length c0z0 a0.steps, .row (tInt .i64) 3 A0z1 a0.num.length c0z1 a0.num, .row (tInt .i64) 3 A0z2 a0.low.length c0z2 a0.low, .row (tInt .i64) 3 A0z3 a0.part.length c0z3 a0.part, .row (tInt .i64) 3 A0z4 a0.open_.length c0z4 a0.open_]) (hT : TabM M.blk) (r : GraphWalk) (H : graph_walk_down a0 a1 = some r) :
    Calls Tryd.prog 37 #[.pointer (some ⟨b0z, 0, none⟩), .int .i64 a1] w fun e w' => ∃ (A1119 : Option Addr) (c1120 : Nat), ∃ (A1121 : Option Addr) (c1122 : Nat), ∃ (A1123 : Option Addr) (c1124 : Nat), ∃ (A1125 : Option Addr) (c1126 : Nat), ∃ (A1127 : Option Addr) (c1128 : Nat), e = .returned (.tuple #[]) ∧ Inv M w' [.blk b0z 65 [.slice A1119 r.steps.length c1120, .slice A1121 r.num.length c1122, .slice A1123 r.low.length c1124, .slice A1125 r.part.length c1126, .slice A1127 r.open_.length c1128, .int .i64 r.count, .int .i64 r.parts], .row (tInt .u64) 54 A1119 r.steps.length c1120 r.steps, .row (tInt .i64) 3 A1121 r.num.length c1122 r.num, .row (tInt .i64) 3 A1123 r.low.length c1124 r.low, .row (tInt .i64) 3 A1125 r.part.length c1126 r.part, .row (tInt .i64) 3 A1127 r.open_.length c1128 r.open_] := by
  refine calls_go (updL (fun _ => undef) [(0, .pointer (some ⟨b0z, 0, none⟩)), (1, .int .i64 a1)]) Tryd.func37 rfl (by kernel_rfl) ?_
  intro cs
  unfold graph_walk_down at H
  refine go_seq ?_
  refine r_in ?_
  refine o_batch 0 [] [.p, .p] [(9, .pointer (some ⟨b0z, 0, none⟩)), (10, .int .i64 a1)] [] trivial trivial (by kernel_rfl) (by kernel_rfl) (by kernel_rfl) ?_
  replace H := bind_some H
  obtain ⟨y23, hy24, H⟩ := H
  obtain ⟨M18, hJ19, hs20, hro21, hback22⟩ := hI.call (R := [.blk b0z 65 [.slice A0z0 a0.steps.length c0z0, .slice A0z1 a0.num.length c0z1, .slice A0z2 a0.low.length c0z2, .slice A0z3 a0.part.length c0z3, .slice A0z4 a0.open_.length c0z4, .int .i64 a0.count, .int .i64 a0.parts], .row (tInt .u64) 54 A0z0 a0.steps.length c0z0 a0.steps, .row (tInt .i64) 3 A0z1 a0.num.length c0z1 a0.num, .row (tInt .i64) 3 A0z2 a0.low.length c0z2 a0.low, .row (tInt .i64) 3 A0z3 a0.part.length c0z3 a0.part, .row (tInt .i64) 3 A0z4 a0.open_.length c0z4 a0.open_]) (L0 := []) [0, 1, 2, 3, 4, 5] [] (by decide) rfl
  refine o_eff 2 _ rfl (by kernel_rfl) ?_
  refine e_callf _ _ _ 43 #[] #[] #[.pointer (some ⟨b0z, 0, none⟩), .int .i64 a1] #[.pointer (some ⟨b0z, 0, none⟩), .int .i64 a1] rfl (by kernel_rfl) (by kernel_rfl) (by kernel_rfl) (enter43 _) (graph_walk_enter_calls b0z a0 A0z0 c0z0 A0z1 c0z1 A0z2 c0z2 A0z3 c0z3 A0z4 c0z4 a1 M18 _ hJ19 _ hy24) ?_
  rintro _ _ ⟨A25, c26, A27, c28, A29, c30, A31, c32, A33, c34, rfl, hI'⟩
  replace hI := hback22 _ _ hI'
  clear hI'
  refine ⟨_, rfl, ?_⟩
  refine r_out (by kernel_rfl) ?_
  refine go_seq ?_
  refine r_in ?_
  replace H := must_some H
  obtain ⟨g38, H⟩ := H
  obtain ⟨b39, rfl⟩ := hI.rowAt 1 rfl g38
  refine o_batch 0 [(b0z, 0, [.slice (some ⟨b39, 0, none⟩) y23.steps.length c26, .slice A27 y23.num.length c28, .slice A29 y23.low.length c30, .slice A31 y23.part.length c32, .slice A33 y23.open_.length c34, .int .i64 y23.count, .int .i64 y23.parts]), (b39, 0 + a1.toNat * 1, [.int .u64 (idx y23.steps a1)])] [.p, .p, .p, .p, .l 0 0, .p, .x, .l 1 0, .p] [(12, .int .i64 a1), (13, .pointer (some ⟨b0z, 0, none⟩)), (14, .pointer (some ⟨b0z, 0, none⟩)), (15, .pointer (some ⟨b0z, 0, none⟩)), (16, .slice (some ⟨b39, 0, none⟩) y23.steps.length c26), (17, .int .i64 a1), (18, .pointer (some ⟨b39, 0 + a1.toNat * 1, none⟩)), (19, .int .u64 (idx y23.steps a1)), (20, .agg #[.int .i64 a1, .int .u64 (idx y23.steps a1)])] [(a1, y23.steps.length)] ⟨(hI.grp 0 rfl), (rdS.flook (hI.row 1 rfl) (hI.rowlen 1 rfl) g38).ok, trivial⟩ ⟨g38, trivial⟩ (by kernel_rfl) (by kernel_rfl) (by kernel_rfl) ?_
  refine o_eff 9 _ rfl (by kernel_rfl) ?_
  refine e_parts 78 77 1 _ _ _ #[.int .i64 a1, .int .u64 (idx y23.steps a1)] [.int .i64 a1, .int .u64 (idx y23.steps a1)] rfl rfl rfl rfl (by kernel_rfl) (by kernel_rfl) (by kernel_rfl) (by kernel_rfl) hI ?_
  clear hI
  intro b40 _ hI
  replace hI := hI.asrow (k := kGraphFrame) (xs := ([(⟨a1, idx y23.steps a1⟩ : GraphFrame)] : List GraphFrame)) (cs := [.int .i64 a1, .int .u64 (idx y23.steps a1)]) (R := []) (L' := [.blk b0z 65 [.slice (some ⟨b39, 0, none⟩) y23.steps.length c26, .slice A27 y23.num.length c28, .slice A29 y23.low.length c30, .slice A31 y23.part.length c32, .slice A33 y23.open_.length c34, .int .i64 y23.count, .int .i64 y23.parts], .row (tInt .u64) 54 (some ⟨b39, 0, none⟩) y23.steps.length c26 y23.steps, .row (tInt .i64) 3 A27 y23.num.length c28 y23.num, .row (tInt .i64) 3 A29 y23.low.length c30 y23.low, .row (tInt .i64) 3 A31 y23.part.length c32 y23.part, .row (tInt .i64) 3 A33 y23.open_.length c34 y23.open_]) 1 6 [] [0, 1, 2, 3, 4, 5] (by decide) rfl (mks_cons (mk_flat (k := kGraphFrame) (⟨a1, idx y23.steps a1⟩ : GraphFrame) [.int .i64 a1, .int .u64 (idx y23.steps a1)] rfl) mks_nil) rfl rfl (by kernel_rfl)
  refine o_batch 10 [] [.p] [(4, .slice (some ⟨b40, 0, none⟩) 1 1)] [] trivial trivial (by kernel_rfl) (by kernel_rfl) (by kernel_rfl) ?_
  refine r_out (by kernel_rfl) ?_
  refine go_block ?_
  refine go_is 4 (.slice (some ⟨b40, 0, none⟩) 1 1) (.slice (some ⟨b40, 0, none⟩) (([(⟨a1, idx y23.steps a1⟩ : GraphFrame)] : List GraphFrame).length) 1) (by kernel_rfl) (by first | rfl | simp only [List.length_set, List.length_replicate, List.length_nil]) ?_
  replace hI := hI.renum 0 rfl
  refine go_iter (graph_walk_down.s1) (fun (l799, l802, l805, l808, l811, x814, x815, l816) f w => ∃ (j : Nat → Value) (A800 : Option Addr) (c801 : Nat) (A803 : Option Addr) (c804 : Nat) (A806 : Option Addr) (c807 : Nat) (A809 : Option Addr) (c810 : Nat) (A812 : Option Addr) (c813 : Nat) (A817 : Option Addr) (c818 : Nat), f = updL j [(0, .pointer (some ⟨b0z, 0, none⟩)), (4, .slice A817 l816.length c818)] ∧ Inv M w [.blk b0z 65 [.slice A800 l799.length c801, .slice A803 l802.length c804, .slice A806 l805.length c807, .slice A809 l808.length c810, .slice A812 l811.length c813, .int .i64 x814, .int .i64 x815], .row (tInt .u64) 54 A800 l799.length c801 l799, .row (tInt .i64) 3 A803 l802.length c804 l802, .row (tInt .i64) 3 A806 l805.length c807 l805, .row (tInt .i64) 3 A809 l808.length c810 l808, .row (tInt .i64) 3 A812 l811.length c813 l811, .row kGraphFrame 77 A817 l816.length c818 l816]) H ⟨_, (some ⟨b39, 0, none⟩), c26, A27, c28, A29, c30, A31, c32, A33, c34, (some ⟨b40, 0, none⟩), 1, at_slots _ (by kernel_rfl), hI.pick [1, 2, 3, 4, 5, 6, 0] (by decide) rfl⟩ ?_
  clear H hI
  rintro ⟨l799, l802, l805, l808, l811, x814, x815, l816⟩ _ _ o1 H ⟨_, A800, c801, A803, c804, A806, c807, A809, c810, A812, c813, A817, c818, rfl, hI⟩ hin1 hout1
  refine go_seq ?_
  refine go_seq ?_
  refine r_in ?_
  refine o_batch 0 [] [.p, .p, .p] [(22, .slice A817 l816.length c818), (23, .int .i64 (l816.length : Int)), (24, .bool (decide ((l816.length : Int) > 0)))] [] trivial trivial (by kernel_rfl) (by kernel_rfl) (by kernel_rfl) ?_
  refine r_out (by kernel_rfl) ?_
  replace H := cond_some H
  rcases H with ⟨hc820, H⟩ | ⟨hc820, H⟩
  · refine go_then' (t := decide ((l816.length : Int) > 0)) (by kernel_rfl) hc820 ?_
    refine go_skip ?_
    refine go_block_join (o := o1) (fun (l908, l911, l914, l917, l920, x923, x924, l925) f w => ∃ (j : Nat → Value) (A909 : Option Addr) (c910 : Nat) (A912 : Option Addr) (c913 : Nat) (A915 : Option Addr) (c916 : Nat) (A918 : Option Addr) (c919 : Nat) (A921 : Option Addr) (c922 : Nat) (A926 : Option Addr) (c927 : Nat), f = updL j [(0, .pointer (some ⟨b0z, 0, none⟩)), (4, .slice A926 l925.length c927)] ∧ Inv M w [.blk b0z 65 [.slice A909 l908.length c910, .slice A912 l911.length c913, .slice A915 l914.length c916, .slice A918 l917.length c919, .slice A921 l920.length c922, .int .i64 x923, .int .i64 x924], .row (tInt .u64) 54 A909 l908.length c910 l908, .row (tInt .i64) 3 A912 l911.length c913 l911, .row (tInt .i64) 3 A915 l914.length c916 l914, .row (tInt .i64) 3 A918 l917.length c919 l917, .row (tInt .i64) 3 A921 l920.length c922 l920, .row kGraphFrame 77 A926 l925.length c927 l925]) (fun (l908, l911, l914, l917, l920, x923, x924, l925) => graph_walk_down.j2 l908 l911 l914 l917 l920 x923 x924 l925) ?_ (fun hJ928 => ?_)
    · clear H hI
      rintro ⟨l908, l911, l914, l917, l920, x923, x924, l925⟩ _ _ ⟨_, A909, c910, A912, c913, A915, c916, A918, c919, A921, c922, A926, c927, rfl, hI⟩ H
      exact hin1 _ (Option.some.inj H).symm _ _ ⟨_, A909, c910, A912, c913, A915, c916, A918, c919, A921, c922, A926, c927, at_slots _ (by kernel_rfl), hI⟩
    · refine go_seq ?_
      refine r_in ?_
      replace H := must_some H
      obtain ⟨g931, H⟩ := H
      obtain ⟨b932, rfl⟩ := hI.rowAt 6 rfl g931
      refine o_batch 0 [] [.p, .p, .p, .p, .x, .p] [(25, .slice (some ⟨b932, 0, none⟩) l816.length c818), (26, .slice (some ⟨b932, 0, none⟩) l816.length c818), (27, .int .i64 (l816.length : Int)), (28, .int .i64 (w64 ((l816.length : Int) - 1))), (29, .pointer (some ⟨b932, 0 + (w64 ((l816.length : Int) - 1)).toNat * 2, none⟩)), (5, .pointer (some ⟨b932, 0 + (w64 ((l816.length : Int) - 1)).toNat * 2, none⟩))] [(w64 ((l816.length : Int) - 1), l816.length)] trivial ⟨g931, trivial⟩ (by kernel_rfl) (by kernel_rfl) (by kernel_rfl) ?_
      refine r_out (by kernel_rfl) ?_
      refine go_seq ?_
      refine go_seq ?_
      refine r_in ?_
      refine o_batch 0 [(b932, 0 + (w64 ((l816.length : Int) - 1)).toNat * 2, [.int .i64 ((idx l816 (w64 ((l816.length : Int) - 1))).node), .int .u64 ((idx l816 (w64 ((l816.length : Int) - 1))).left_)])] [.p, .p, .p, .l 0 1, .p] [(30, .pointer (some ⟨b932, 0 + (w64 ((l816.length : Int) - 1)).toNat * 2, none⟩)), (31, .pointer (some ⟨b932, 0 + (w64 ((l816.length : Int) - 1)).toNat * 2, none⟩)), (32, .pointer (some ⟨b932, 0 + (w64 ((l816.length : Int) - 1)).toNat * 2 + 1, none⟩)), (33, .int .u64 ((idx l816 (w64 ((l816.length : Int) - 1))).left_)), (34, .bool ((idx l816 (w64 ((l816.length : Int) - 1))).left_ != 0))] [] ⟨(rdS.flook (hI.row 6 rfl) (hI.rowlen 6 rfl) g931).ok, trivial⟩ trivial (by kernel_rfl) (by kernel_rfl) (by kernel_rfl) ?_
      refine r_out (by kernel_rfl) ?_
      replace H := cond_some H
      rcases H with ⟨hc987, H⟩ | ⟨hc987, H⟩
      · refine go_then' (t := ((idx l816 (w64 ((l816.length : Int) - 1))).left_ != 0)) (by kernel_rfl) hc987 ?_
        refine go_seq ?_
        refine r_in ?_
        refine o_batch 0 [(b932, 0 + (w64 ((l816.length : Int) - 1)).toNat * 2, [.int .i64 ((idx l816 (w64 ((l816.length : Int) - 1))).node), .int .u64 ((idx l816 (w64 ((l816.length : Int) - 1))).left_)])] [.p, .p, .p, .l 0 1] [(35, .pointer (some ⟨b932, 0 + (w64 ((l816.length : Int) - 1)).toNat * 2, none⟩)), (36, .pointer (some ⟨b932, 0 + (w64 ((l816.length : Int) - 1)).toNat * 2, none⟩)), (37, .pointer (some ⟨b932, 0 + (w64 ((l816.length : Int) - 1)).toNat * 2 + 1, none⟩)), (38, .int .u64 ((idx l816 (w64 ((l816.length : Int) - 1))).left_))] [] ⟨(rdS.flook (hI.row 6 rfl) (hI.rowlen 6 rfl) g931).ok, trivial⟩ trivial (by kernel_rfl) (by kernel_rfl) (by kernel_rfl) ?_
        replace H := bind_some H
        obtain ⟨y990, hy991, H⟩ := H
        refine o_eff 4 _ rfl (by kernel_rfl) ?_
        refine e_callf _ _ _ 36 #[] #[] #[.int .u64 ((idx l816 (w64 ((l816.length : Int) - 1))).left_)] #[.int .u64 ((idx l816 (w64 ((l816.length : Int) - 1))).left_)] rfl (by kernel_rfl) (by kernel_rfl) (by kernel_rfl) (enter36 _) (bits_TrailingZeros64zcalls ((idx l816 (w64 ((l816.length : Int) - 1))).left_) (memOf _) _ (Inv.start _) (hI.rd hT) _ hy991) ?_
        rintro _ _ ⟨rfl, hI'⟩
        replace hI := hI.call0 hI'
        clear hI'
        refine ⟨_, rfl, ?_⟩
        refine o_batch 5 [] [.p] [(6, .int .i64 y990)] [] trivial trivial (by kernel_rfl) (by kernel_rfl) (by kernel_rfl) ?_
        refine r_out (by kernel_rfl) ?_
        refine go_seq ?_
        refine d_tail' 12 _ [(b932, 0 + (w64 ((l816.length : Int) - 1)).toNat * 2, [.int .i64 ((idx l816 (w64 ((l816.length : Int) - 1))).node), .int .u64 ((idx l816 (w64 ((l816.length : Int) - 1))).left_)])] [.p, .p, .p, .l 0 1, .p, .p, .p, .l 0 1, .p, .p, .p, .p] [(40, .pointer (some ⟨b932, 0 + (w64 ((l816.length : Int) - 1)).toNat * 2, none⟩)), (41, .pointer (some ⟨b932, 0 + (w64 ((l816.length : Int) - 1)).toNat * 2, none⟩)), (42, .pointer (some ⟨b932, 0 + (w64 ((l816.length : Int) - 1)).toNat * 2 + 1, none⟩)), (43, .int .u64 ((idx l816 (w64 ((l816.length : Int) - 1))).left_)), (44, .pointer (some ⟨b932, 0 + (w64 ((l816.length : Int) - 1)).toNat * 2, none⟩)), (45, .pointer (some ⟨b932, 0 + (w64 ((l816.length : Int) - 1)).toNat * 2, none⟩)), (46, .pointer (some ⟨b932, 0 + (w64 ((l816.length : Int) - 1)).toNat * 2 + 1, none⟩)), (47, .int .u64 ((idx l816 (w64 ((l816.length : Int) - 1))).left_)), (48, .int .u64 (IntKind.wrap .u64 (((idx l816 (w64 ((l816.length : Int) - 1))).left_) - 1))), (49, .int .u64 (bAnd .u64 ((idx l816 (w64 ((l816.length : Int) - 1))).left_) (IntKind.wrap .u64 (((idx l816 (w64 ((l816.length : Int) - 1))).left_) - 1)))), (50, .pointer (some ⟨b932, 0 + (w64 ((l816.length : Int) - 1)).toNat * 2, none⟩)), (51, .pointer (some ⟨b932, 0 + (w64 ((l816.length : Int) - 1)).toNat * 2 + 1, none⟩))] [] (by kernel_rfl) (by kernel_rfl) rfl rfl ⟨(rdS.flook (hI.row 6 rfl) (hI.rowlen 6 rfl) g931).ok, trivial⟩ trivial (by kernel_rfl) (by kernel_rfl) (by kernel_rfl) (by kernel_rfl) hI ?_
        clear hI
        intro _ hI hsame
        refine e_put 54 _ _ 6 b932 77 l816.length c818 l816 (⟨(idx l816 (w64 ((l816.length : Int) - 1))).node, bAnd .u64 ((idx l816 (w64 ((l816.length : Int) - 1))).left_) (IntKind.wrap .u64 (((idx l816 (w64 ((l816.length : Int) - 1))).left_) - 1))⟩ : GraphFrame) (w64 ((l816.length : Int) - 1)) 1 (.int .u64 (bAnd .u64 ((idx l816 (w64 ((l816.length : Int) - 1))).left_) (IntKind.wrap .u64 (((idx l816 (w64 ((l816.length : Int) - 1))).left_) - 1)))) rfl (by kernel_rfl) (by kernel_rfl) (by kernel_rfl) (by kernel_rfl) hI rfl (by simpa only [List.length_set, List.length_replicate] using g931) (by kernel_rfl) (by kernel_rfl) ?_
        clear hI
        intro _ hI
        refine go_seq ?_
        refine go_seq ?_
        refine r_in ?_
        replace H := must_some H
        obtain ⟨g1025, H⟩ := H
        obtain ⟨b1026, rfl⟩ := hI.rowAt 2 rfl g1025
        refine o_batch 0 [(b0z, 0, [.slice A800 l799.length c801, .slice (some ⟨b1026, 0, none⟩) l802.length c804, .slice A806 l805.length c807, .slice A809 l808.length c810, .slice A812 l811.length c813, .int .i64 x814, .int .i64 x815]), (b1026, 0 + y990.toNat * 1, [.int .i64 (idx l802 y990)])] [.p, .p, .p, .l 0 1, .p, .x, .l 1 0, .p] [(52, .pointer (some ⟨b0z, 0, none⟩)), (53, .pointer (some ⟨b0z, 0, none⟩)), (54, .pointer (some ⟨b0z, 1, none⟩)), (55, .slice (some ⟨b1026, 0, none⟩) l802.length c804), (56, .int .i64 y990), (57, .pointer (some ⟨b1026, 0 + y990.toNat * 1, none⟩)), (58, .int .i64 (idx l802 y990)), (59, .bool (idx l802 y990 == 0))] [(y990, l802.length)] ⟨(hI.grp 0 rfl), (rdS.flook (hI.row 2 rfl) (hI.rowlen 2 rfl) g1025).ok, trivial⟩ ⟨g1025, trivial⟩ (by kernel_rfl) (by kernel_rfl) (by kernel_rfl) ?_
        refine r_out (by kernel_rfl) ?_
        replace H := cond_some H
        rcases H with ⟨hc1027, H⟩ | ⟨hc1027, H⟩
        · refine go_then' (t := (idx l802 y990 == 0)) (by kernel_rfl) hc1027 ?_
          refine go_seq ?_
          refine r_in ?_
          refine o_batch 0 [] [.p, .p] [(60, .pointer (some ⟨b0z, 0, none⟩)), (61, .int .i64 y990)] [] trivial trivial (by kernel_rfl) (by kernel_rfl) (by kernel_rfl) ?_
          replace H := bind_some H
          obtain ⟨y1050, hy1051, H⟩ := H
          refine o_is 4 (.slice (some ⟨b932, 0, none⟩) l816.length c818) (.slice (some ⟨b932, 0, none⟩) ((l816.set (w64 ((l816.length : Int) - 1)).toNat (⟨(idx l816 (w64 ((l816.length : Int) - 1))).node, bAnd .u64 ((idx l816 (w64 ((l816.length : Int) - 1))).left_) (IntKind.wrap .u64 (((idx l816 (w64 ((l816.length : Int) - 1))).left_) - 1))⟩ : GraphFrame)).length) c818) (by kernel_rfl) (by first | rfl | simp only [List.length_set, List.length_replicate, List.length_nil]) ?_
          refine o_is 22 (.slice (some ⟨b932, 0, none⟩) l816.length c818) (.slice (some ⟨b932, 0, none⟩) ((l816.set (w64 ((l816.length : Int) - 1)).toNat (⟨(idx l816 (w64 ((l816.length : Int) - 1))).node, bAnd .u64 ((idx l816 (w64 ((l816.length : Int) - 1))).left_) (IntKind.wrap .u64 (((idx l816 (w64 ((l816.length : Int) - 1))).left_) - 1))⟩ : GraphFrame)).length) c818) (by kernel_rfl) (by first | rfl | simp only [List.length_set, List.length_replicate, List.length_nil]) ?_
          refine o_is 25 (.slice (some ⟨b932, 0, none⟩) l816.length c818) (.slice (some ⟨b932, 0, none⟩) ((l816.set (w64 ((l816.length : Int) - 1)).toNat (⟨(idx l816 (w64 ((l816.length : Int) - 1))).node, bAnd .u64 ((idx l816 (w64 ((l816.length : Int) - 1))).left_) (IntKind.wrap .u64 (((idx l816 (w64 ((l816.length : Int) - 1))).left_) - 1))⟩ : GraphFrame)).length) c818) (by kernel_rfl) (by first | rfl | simp only [List.length_set, List.length_replicate, List.length_nil]) ?_
          refine o_is 26 (.slice (some ⟨b932, 0, none⟩) l816.length c818) (.slice (some ⟨b932, 0, none⟩) ((l816.set (w64 ((l816.length : Int) - 1)).toNat (⟨(idx l816 (w64 ((l816.length : Int) - 1))).node, bAnd .u64 ((idx l816 (w64 ((l816.length : Int) - 1))).left_) (IntKind.wrap .u64 (((idx l816 (w64 ((l816.length : Int) - 1))).left_) - 1))⟩ : GraphFrame)).length) c818) (by kernel_rfl) (by first | rfl | simp only [List.length_set, List.length_replicate, List.length_nil]) ?_
          replace hI := hI.renum 6 rfl
          obtain ⟨M1045, hJ1046, hs1047, hro1048, hback1049⟩ := hI.call (R := [.blk b0z 65 [.slice A800 l799.length c801, .slice (some ⟨b1026, 0, none⟩) l802.length c804, .slice A806 l805.length c807, .slice A809 l808.length c810, .slice A812 l811.length c813, .int .i64 x814, .int .i64 x815], .row (tInt .u64) 54 A800 l799.length c801 l799, .row (tInt .i64) 3 (some ⟨b1026, 0, none⟩) l802.length c804 l802, .row (tInt .i64) 3 A806 l805.length c807 l805, .row (tInt .i64) 3 A809 l808.length c810 l808, .row (tInt .i64) 3 A812 l811.length c813 l811]) (L0 := [.row kGraphFrame 77 (some ⟨b932, 0, none⟩) ((l816.set (w64 ((l816.length : Int) - 1)).toNat (⟨(idx l816 (w64 ((l816.length : Int) - 1))).node, bAnd .u64 ((idx l816 (w64 ((l816.length : Int) - 1))).left_) (IntKind.wrap .u64 (((idx l816 (w64 ((l816.length : Int) - 1))).left_) - 1))⟩ : GraphFrame)).length) c818 (l816.set (w64 ((l816.length : Int) - 1)).toNat (⟨(idx l816 (w64 ((l816.length : Int) - 1))).node, bAnd .u64 ((idx l816 (w64 ((l816.length : Int) - 1))).left_) (IntKind.wrap .u64 (((idx l816 (w64 ((l816.length : Int) - 1))).left_) - 1))⟩ : GraphFrame))]) [0, 1, 2, 3, 4, 5] [6] (by decide) rfl
          refine o_eff 2 _ rfl (by kernel_rfl) ?_
          refine e_callf _ _ _ 43 #[] #[] #[.pointer (some ⟨b0z, 0, none⟩), .int .i64 y990] #[.pointer (some ⟨b0z, 0, none⟩), .int .i64 y990] rfl (by kernel_rfl) (by kernel_rfl) (by kernel_rfl) (enter43 _) (graph_walk_enter_calls b0z (⟨l799, l802, l805, l808, l811, x814, x815⟩ : GraphWalk) A800 c801 (some ⟨b1026, 0, none⟩) c804 A806 c807 A809 c810 A812 c813 y990 M1045 _ hJ1046 _ hy1051) ?_
          rintro _ _ ⟨A1052, c1053, A1054, c1055, A1056, c1057, A1058, c1059, A1060, c1061, rfl, hI'⟩
          replace hI := hback1049 _ _ hI'
          clear hI'
          refine ⟨_, rfl, ?_⟩
          refine r_out (by kernel_rfl) ?_
          refine r_in ?_
          replace H := must_some H
          obtain ⟨g1062, H⟩ := H
          obtain ⟨b1063, rfl⟩ := hI.rowAt 1 rfl g1062
          refine o_batch 0 [(b0z, 0, [.slice (some ⟨b1063, 0, none⟩) y1050.steps.length c1053, .slice A1054 y1050.num.length c1055, .slice A1056 y1050.low.length c1057, .slice A1058 y1050.part.length c1059, .slice A1060 y1050.open_.length c1061, .int .i64 y1050.count, .int .i64 y1050.parts]), (b1063, 0 + y990.toNat * 1, [.int .u64 (idx y1050.steps y990)])] [.p, .p, .p, .p, .p, .l 0 0, .p, .x, .l 1 0, .p] [(63, .slice (some ⟨b932, 0, none⟩) ((l816.set (w64 ((l816.length : Int) - 1)).toNat (⟨(idx l816 (w64 ((l816.length : Int) - 1))).node, bAnd .u64 ((idx l816 (w64 ((l816.length : Int) - 1))).left_) (IntKind.wrap .u64 (((idx l816 (w64 ((l816.length : Int) - 1))).left_) - 1))⟩ : GraphFrame)).length) c818), (64, .int .i64 y990), (65, .pointer (some ⟨b0z, 0, none⟩)), (66, .pointer (some ⟨b0z, 0, none⟩)), (67, .pointer (some ⟨b0z, 0, none⟩)), (68, .slice (some ⟨b1063, 0, none⟩) y1050.steps.length c1053), (69, .int .i64 y990), (70, .pointer (some ⟨b1063, 0 + y990.toNat * 1, none⟩)), (71, .int .u64 (idx y1050.steps y990)), (72, .agg #[.int .i64 y990, .int .u64 (idx y1050.steps y990)])] [(y990, y1050.steps.length)] ⟨(hI.grp 0 rfl), (rdS.flook (hI.row 1 rfl) (hI.rowlen 1 rfl) g1062).ok, trivial⟩ ⟨g1062, trivial⟩ (by kernel_rfl) (by kernel_rfl) (by kernel_rfl) ?_
          refine o_eff 10 _ rfl (by kernel_rfl) ?_
          refine e_parts 78 77 1 _ _ _ #[.int .i64 y990, .int .u64 (idx y1050.steps y990)] [.int .i64 y990, .int .u64 (idx y1050.steps y990)] rfl rfl rfl rfl (by kernel_rfl) (by kernel_rfl) (by kernel_rfl) (by kernel_rfl) hI ?_
          clear hI
          intro b1064 _ hI
          replace H := must_some H
          obtain ⟨g1065, H⟩ := H
          refine o_eff 11 _ rfl (by kernel_rfl) ?_
          refine e_append kGraphFrame 78 0 77 _ _ _ _ (some ⟨b932, 0, none⟩) ((l816.set (w64 ((l816.length : Int) - 1)).toNat (⟨(idx l816 (w64 ((l816.length : Int) - 1))).node, bAnd .u64 ((idx l816 (w64 ((l816.length : Int) - 1))).left_) (IntKind.wrap .u64 (((idx l816 (w64 ((l816.length : Int) - 1))).left_) - 1))⟩ : GraphFrame)).length) c818 (l816.set (w64 ((l816.length : Int) - 1)).toNat (⟨(idx l816 (w64 ((l816.length : Int) - 1))).node, bAnd .u64 ((idx l816 (w64 ((l816.length : Int) - 1))).left_) (IntKind.wrap .u64 (((idx l816 (w64 ((l816.length : Int) - 1))).left_) - 1))⟩ : GraphFrame)) ([(⟨y990, idx y1050.steps y990⟩ : GraphFrame)] : List GraphFrame) b1064 0 1 1 [.int .i64 y990, .int .u64 (idx y1050.steps y990)] 6 [] [0, 1, 2, 3, 4, 5, 7] [] [.blk b0z 65 [.slice (some ⟨b1063, 0, none⟩) y1050.steps.length c1053, .slice A1054 y1050.num.length c1055, .slice A1056 y1050.low.length c1057, .slice A1058 y1050.part.length c1059, .slice A1060 y1050.open_.length c1061, .int .i64 y1050.count, .int .i64 y1050.parts], .row (tInt .u64) 54 (some ⟨b1063, 0, none⟩) y1050.steps.length c1053 y1050.steps, .row (tInt .i64) 3 A1054 y1050.num.length c1055 y1050.num, .row (tInt .i64) 3 A1056 y1050.low.length c1057 y1050.low, .row (tInt .i64) 3 A1058 y1050.part.length c1059 y1050.part, .row (tInt .i64) 3 A1060 y1050.open_.length c1061 y1050.open_, .blk b1064 77 [.int .i64 y990, .int .u64 (idx y1050.steps y990)]] rfl (by kernel_rfl) (by kernel_rfl) rfl rfl rfl rfl rfl (by kernel_rfl) hI (by decide) rfl rfl rfl (hI.grp 7 rfl) g1065 (mks_cons (mk_flat (k := kGraphFrame) (⟨y990, idx y1050.steps y990⟩ : GraphFrame) [.int .i64 y990, .int .u64 (idx y1050.steps y990)] rfl) mks_nil) ?_
          clear hI
          intro A1066 c1067 _ hI
          replace hI := hI.pick (L' := [.row kGraphFrame 77 A1066 (((l816.set (w64 ((l816.length : Int) - 1)).toNat (⟨(idx l816 (w64 ((l816.length : Int) - 1))).node, bAnd .u64 ((idx l816 (w64 ((l816.length : Int) - 1))).left_) (IntKind.wrap .u64 (((idx l816 (w64 ((l816.length : Int) - 1))).left_) - 1))⟩ : GraphFrame)) ++ ([(⟨y990, idx y1050.steps y990⟩ : GraphFrame)] : List GraphFrame)).length) c1067 ((l816.set (w64 ((l816.length : Int) - 1)).toNat (⟨(idx l816 (w64 ((l816.length : Int) - 1))).node, bAnd .u64 ((idx l816 (w64 ((l816.length : Int) - 1))).left_) (IntKind.wrap .u64 (((idx l816 (w64 ((l816.length : Int) - 1))).left_) - 1))⟩ : GraphFrame)) ++ ([(⟨y990, idx y1050.steps y990⟩ : GraphFrame)] : List GraphFrame)), .blk b0z 65 [.slice (some ⟨b1063, 0, none⟩) y1050.steps.length c1053, .slice A1054 y1050.num.length c1055, .slice A1056 y1050.low.length c1057, .slice A1058 y1050.part.length c1059, .slice A1060 y1050.open_.length c1061, .int .i64 y1050.count, .int .i64 y1050.parts], .row (tInt .u64) 54 (some ⟨b1063, 0, none⟩) y1050.steps.length c1053 y1050.steps, .row (tInt .i64) 3 A1054 y1050.num.length c1055 y1050.num, .row (tInt .i64) 3 A1056 y1050.low.length c1057 y1050.low, .row (tInt .i64) 3 A1058 y1050.part.length c1059 y1050.part, .row (tInt .i64) 3 A1060 y1050.open_.length c1061 y1050.open_]) [0, 1, 2, 3, 4, 5, 6] (by decide) rfl
          refine o_batch 12 [] [.p] [(4, .slice A1066 (((l816.set (w64 ((l816.length : Int) - 1)).toNat (⟨(idx l816 (w64 ((l816.length : Int) - 1))).node, bAnd .u64 ((idx l816 (w64 ((l816.length : Int) - 1))).left_) (IntKind.wrap .u64 (((idx l816 (w64 ((l816.length : Int) - 1))).left_) - 1))⟩ : GraphFrame)) ++ ([(⟨y990, idx y1050.steps y990⟩ : GraphFrame)] : List GraphFrame)).length) c1067)] [] trivial trivial (by kernel_rfl) (by kernel_rfl) (by kernel_rfl) ?_
          refine r_out (by kernel_rfl) ?_
          refine go_exit rfl ?_
          exact hJ928 (y1050.steps, y1050.num, y1050.low, y1050.part, y1050.open_, y1050.count, y1050.parts, (l816.set (w64 ((l816.length : Int) - 1)).toNat (⟨(idx l816 (w64 ((l816.length : Int) - 1))).node, bAnd .u64 ((idx l816 (w64 ((l816.length : Int) - 1))).left_) (IntKind.wrap .u64 (((idx l816 (w64 ((l816.length : Int) - 1))).left_) - 1))⟩ : GraphFrame)) ++ ([(⟨y990, idx y1050.steps y990⟩ : GraphFrame)] : List GraphFrame)) _ _ ⟨_, (some ⟨b1063, 0, none⟩), c1053, A1054, c1055, A1056, c1057, A1058, c1059, A1060, c1061, A1066, c1067, at_slots _ (by kernel_rfl), hI.pick [1, 2, 3, 4, 5, 6, 0] (by decide) rfl⟩ H
        · refine go_else' (t := (idx l802 y990 == 0)) (by kernel_rfl) hc1027 ?_
          refine go_seq ?_
          refine r_in ?_
          replace H := must_some H
          obtain ⟨g1070, H⟩ := H
          obtain ⟨b1071, rfl⟩ := hI.rowAt 4 rfl g1070
          refine o_batch 0 [(b0z, 0, [.slice A800 l799.length c801, .slice (some ⟨b1026, 0, none⟩) l802.length c804, .slice A806 l805.length c807, .slice (some ⟨b1071, 0, none⟩) l808.length c810, .slice A812 l811.length c813, .int .i64 x814, .int .i64 x815]), (b1071, 0 + y990.toNat * 1, [.int .i64 (idx l808 y990)])] [.p, .p, .p, .l 0 3, .p, .x, .l 1 0, .p] [(75, .pointer (some ⟨b0z, 0, none⟩)), (76, .pointer (some ⟨b0z, 0, none⟩)), (77, .pointer (some ⟨b0z, 3, none⟩)), (78, .slice (some ⟨b1071, 0, none⟩) l808.length c810), (79, .int .i64 y990), (80, .pointer (some ⟨b1071, 0 + y990.toNat * 1, none⟩)), (81, .int .i64 (idx l808 y990)), (82, .bool (idx l808 y990 == 0))] [(y990, l808.length)] ⟨(hI.grp 0 rfl), (rdS.flook (hI.row 4 rfl) (hI.rowlen 4 rfl) g1070).ok, trivial⟩ ⟨g1070, trivial⟩ (by kernel_rfl) (by kernel_rfl) (by kernel_rfl) ?_
          refine r_out (by kernel_rfl) ?_
          replace H := cond_some H
          rcases H with ⟨hc1072, H⟩ | ⟨hc1072, H⟩
          · refine go_then' (t := (idx l808 y990 == 0)) (by kernel_rfl) hc1072 ?_
            replace H := must_some H
            obtain ⟨g1073, H⟩ := H
            obtain ⟨b1074, rfl⟩ := hI.rowAt 3 rfl g1073
            refine d_tail' 27 _ [(b0z, 0, [.slice A800 l799.length c801, .slice (some ⟨b1026, 0, none⟩) l802.length c804, .slice (some ⟨b1074, 0, none⟩) l805.length c807, .slice (some ⟨b1071, 0, none⟩) l808.length c810, .slice A812 l811.length c813, .int .i64 x814, .int .i64 x815]), (b932, 0 + (w64 ((l816.length : Int) - 1)).toNat * 2, [.int .i64 ((idx (l816.set (w64 ((l816.length : Int) - 1)).toNat (⟨(idx l816 (w64 ((l816.length : Int) - 1))).node, bAnd .u64 ((idx l816 (w64 ((l816.length : Int) - 1))).left_) (IntKind.wrap .u64 (((idx l816 (w64 ((l816.length : Int) - 1))).left_) - 1))⟩ : GraphFrame)) (w64 ((l816.length : Int) - 1))).node), .int .u64 ((idx (l816.set (w64 ((l816.length : Int) - 1)).toNat (⟨(idx l816 (w64 ((l816.length : Int) - 1))).node, bAnd .u64 ((idx l816 (w64 ((l816.length : Int) - 1))).left_) (IntKind.wrap .u64 (((idx l816 (w64 ((l816.length : Int) - 1))).left_) - 1))⟩ : GraphFrame)) (w64 ((l816.length : Int) - 1))).left_)]), (b1074, 0 + ((idx (l816.set (w64 ((l816.length : Int) - 1)).toNat (⟨(idx l816 (w64 ((l816.length : Int) - 1))).node, bAnd .u64 ((idx l816 (w64 ((l816.length : Int) - 1))).left_) (IntKind.wrap .u64 (((idx l816 (w64 ((l816.length : Int) - 1))).left_) - 1))⟩ : GraphFrame)) (w64 ((l816.length : Int) - 1))).node).toNat * 1, [.int .i64 (idx l805 ((idx (l816.set (w64 ((l816.length : Int) - 1)).toNat (⟨(idx l816 (w64 ((l816.length : Int) - 1))).node, bAnd .u64 ((idx l816 (w64 ((l816.length : Int) - 1))).left_) (IntKind.wrap .u64 (((idx l816 (w64 ((l816.length : Int) - 1))).left_) - 1))⟩ : GraphFrame)) (w64 ((l816.length : Int) - 1))).node))]), (b1026, 0 + y990.toNat * 1, [.int .i64 (idx l802 y990)])] [.p, .p, .p, .l 0 2, .p, .p, .p, .l 1 0, .p, .p, .p, .l 0 2, .p, .p, .p, .l 1 0, .x, .l 2 0, .p, .p, .p, .l 0 1, .p, .x, .l 3 0, .p, .x] [(83, .pointer (some ⟨b0z, 0, none⟩)), (84, .pointer (some ⟨b0z, 0, none⟩)), (85, .pointer (some ⟨b0z, 2, none⟩)), (86, .slice (some ⟨b1074, 0, none⟩) l805.length c807), (87, .pointer (some ⟨b932, 0 + (w64 ((l816.length : Int) - 1)).toNat * 2, none⟩)), (88, .pointer (some ⟨b932, 0 + (w64 ((l816.length : Int) - 1)).toNat * 2, none⟩)), (89, .pointer (some ⟨b932, 0 + (w64 ((l816.length : Int) - 1)).toNat * 2, none⟩)), (90, .int .i64 ((idx (l816.set (w64 ((l816.length : Int) - 1)).toNat (⟨(idx l816 (w64 ((l816.length : Int) - 1))).node, bAnd .u64 ((idx l816 (w64 ((l816.length : Int) - 1))).left_) (IntKind.wrap .u64 (((idx l816 (w64 ((l816.length : Int) - 1))).left_) - 1))⟩ : GraphFrame)) (w64 ((l816.length : Int) - 1))).node)), (91, .pointer (some ⟨b0z, 0, none⟩)), (92, .pointer (some ⟨b0z, 0, none⟩)), (93, .pointer (some ⟨b0z, 2, none⟩)), (94, .slice (some ⟨b1074, 0, none⟩) l805.length c807), (95, .pointer (some ⟨b932, 0 + (w64 ((l816.length : Int) - 1)).toNat * 2, none⟩)), (96, .pointer (some ⟨b932, 0 + (w64 ((l816.length : Int) - 1)).toNat * 2, none⟩)), (97, .pointer (some ⟨b932, 0 + (w64 ((l816.length : Int) - 1)).toNat * 2, none⟩)), (98, .int .i64 ((idx (l816.set (w64 ((l816.length : Int) - 1)).toNat (⟨(idx l816 (w64 ((l816.length : Int) - 1))).node, bAnd .u64 ((idx l816 (w64 ((l816.length : Int) - 1))).left_) (IntKind.wrap .u64 (((idx l816 (w64 ((l816.length : Int) - 1))).left_) - 1))⟩ : GraphFrame)) (w64 ((l816.length : Int) - 1))).node)), (99, .pointer (some ⟨b1074, 0 + ((idx (l816.set (w64 ((l816.length : Int) - 1)).toNat (⟨(idx l816 (w64 ((l816.length : Int) - 1))).node, bAnd .u64 ((idx l816 (w64 ((l816.length : Int) - 1))).left_) (IntKind.wrap .u64 (((idx l816 (w64 ((l816.length : Int) - 1))).left_) - 1))⟩ : GraphFrame)) (w64 ((l816.length : Int) - 1))).node).toNat * 1, none⟩)), (100, .int .i64 (idx l805 ((idx (l816.set (w64 ((l816.length : Int) - 1)).toNat (⟨(idx l816 (w64 ((l816.length : Int) - 1))).node, bAnd .u64 ((idx l816 (w64 ((l816.length : Int) - 1))).left_) (IntKind.wrap .u64 (((idx l816 (w64 ((l816.length : Int) - 1))).left_) - 1))⟩ : GraphFrame)) (w64 ((l816.length : Int) - 1))).node))), (101, .pointer (some ⟨b0z, 0, none⟩)), (102, .pointer (some ⟨b0z, 0, none⟩)), (103, .pointer (some ⟨b0z, 1, none⟩)), (104, .slice (some ⟨b1026, 0, none⟩) l802.length c804), (105, .int .i64 y990), (106, .pointer (some ⟨b1026, 0 + y990.toNat * 1, none⟩)), (107, .int .i64 (idx l802 y990)), (108, .int .i64 (gMin (idx l805 ((idx (l816.set (w64 ((l816.length : Int) - 1)).toNat (⟨(idx l816 (w64 ((l816.length : Int) - 1))).node, bAnd .u64 ((idx l816 (w64 ((l816.length : Int) - 1))).left_) (IntKind.wrap .u64 (((idx l816 (w64 ((l816.length : Int) - 1))).left_) - 1))⟩ : GraphFrame)) (w64 ((l816.length : Int) - 1))).node)) (idx l802 y990))), (109, .pointer (some ⟨b1074, 0 + ((idx (l816.set (w64 ((l816.length : Int) - 1)).toNat (⟨(idx l816 (w64 ((l816.length : Int) - 1))).node, bAnd .u64 ((idx l816 (w64 ((l816.length : Int) - 1))).left_) (IntKind.wrap .u64 (((idx l816 (w64 ((l816.length : Int) - 1))).left_) - 1))⟩ : GraphFrame)) (w64 ((l816.length : Int) - 1))).node).toNat * 1, none⟩))] [((idx (l816.set (w64 ((l816.length : Int) - 1)).toNat (⟨(idx l816 (w64 ((l816.length : Int) - 1))).node, bAnd .u64 ((idx l816 (w64 ((l816.length : Int) - 1))).left_) (IntKind.wrap .u64 (((idx l816 (w64 ((l816.length : Int) - 1))).left_) - 1))⟩ : GraphFrame)) (w64 ((l816.length : Int) - 1))).node, l805.length), (y990, l802.length), ((idx (l816.set (w64 ((l816.length : Int) - 1)).toNat (⟨(idx l816 (w64 ((l816.length : Int) - 1))).node, bAnd .u64 ((idx l816 (w64 ((l816.length : Int) - 1))).left_) (IntKind.wrap .u64 (((idx l816 (w64 ((l816.length : Int) - 1))).left_) - 1))⟩ : GraphFrame)) (w64 ((l816.length : Int) - 1))).node, l805.length)] (by kernel_rfl) (by kernel_rfl) rfl rfl ⟨(hI.grp 0 rfl), (rdS.flook (hI.row 6 rfl) (hI.rowlen 6 rfl) g931).ok, (rdS.flook (hI.row 3 rfl) (hI.rowlen 3 rfl) g1073).ok, (rdS.flook (hI.row 2 rfl) (hI.rowlen 2 rfl) g1025).ok, trivial⟩ ⟨g1073, g1025, g1073, trivial⟩ (by kernel_rfl) (by kernel_rfl) (by kernel_rfl) (by kernel_rfl) hI ?_
            clear hI
            intro _ hI hsame
            refine e_put 3 _ _ 3 b1074 3 l805.length c807 l805 (gMin (idx l805 ((idx (l816.set (w64 ((l816.length : Int) - 1)).toNat (⟨(idx l816 (w64 ((l816.length : Int) - 1))).node, bAnd .u64 ((idx l816 (w64 ((l816.length : Int) - 1))).left_) (IntKind.wrap .u64 (((idx l816 (w64 ((l816.length : Int) - 1))).left_) - 1))⟩ : GraphFrame)) (w64 ((l816.length : Int) - 1))).node)) (idx l802 y990)) ((idx (l816.set (w64 ((l816.length : Int) - 1)).toNat (⟨(idx l816 (w64 ((l816.length : Int) - 1))).node, bAnd .u64 ((idx l816 (w64 ((l816.length : Int) - 1))).left_) (IntKind.wrap .u64 (((idx l816 (w64 ((l816.length : Int) - 1))).left_) - 1))⟩ : GraphFrame)) (w64 ((l816.length : Int) - 1))).node) 0 (.int .i64 (gMin (idx l805 ((idx (l816.set (w64 ((l816.length : Int) - 1)).toNat (⟨(idx l816 (w64 ((l816.length : Int) - 1))).node, bAnd .u64 ((idx l816 (w64 ((l816.length : Int) - 1))).left_) (IntKind.wrap .u64 (((idx l816 (w64 ((l816.length : Int) - 1))).left_) - 1))⟩ : GraphFrame)) (w64 ((l816.length : Int) - 1))).node)) (idx l802 y990))) rfl (by kernel_rfl) (by kernel_rfl) (by kernel_rfl) (by kernel_rfl) hI rfl (by simpa only [List.length_set, List.length_replicate] using g1073) (by kernel_rfl) (by kernel_rfl) ?_
            clear hI
            intro _ hI
            refine go_exit rfl ?_
            refine go_is 4 (.slice (some ⟨b932, 0, none⟩) l816.length c818) (.slice (some ⟨b932, 0, none⟩) ((l816.set (w64 ((l816.length : Int) - 1)).toNat (⟨(idx l816 (w64 ((l816.length : Int) - 1))).node, bAnd .u64 ((idx l816 (w64 ((l816.length : Int) - 1))).left_) (IntKind.wrap .u64 (((idx l816 (w64 ((l816.length : Int) - 1))).left_) - 1))⟩ : GraphFrame)).length) c818) (by kernel_rfl) (by first | rfl | simp only [List.length_set, List.length_replicate, List.length_nil]) ?_
            replace hI := hI.recell 0 [.slice A800 l799.length c801, .slice (some ⟨b1026, 0, none⟩) l802.length c804, .slice (some ⟨b1074, 0, none⟩) ((l805.set ((idx (l816.set (w64 ((l816.length : Int) - 1)).toNat (⟨(idx l816 (w64 ((l816.length : Int) - 1))).node, bAnd .u64 ((idx l816 (w64 ((l816.length : Int) - 1))).left_) (IntKind.wrap .u64 (((idx l816 (w64 ((l816.length : Int) - 1))).left_) - 1))⟩ : GraphFrame)) (w64 ((l816.length : Int) - 1))).node).toNat (gMin (idx l805 ((idx (l816.set (w64 ((l816.length : Int) - 1)).toNat (⟨(idx l816 (w64 ((l816.length : Int) - 1))).node, bAnd .u64 ((idx l816 (w64 ((l816.length : Int) - 1))).left_) (IntKind.wrap .u64 (((idx l816 (w64 ((l816.length : Int) - 1))).left_) - 1))⟩ : GraphFrame)) (w64 ((l816.length : Int) - 1))).node)) (idx l802 y990))).length) c807, .slice (some ⟨b1071, 0, none⟩) l808.length c810, .slice A812 l811.length c813, .int .i64 x814, .int .i64 x815] (by first | rfl | simp only [List.length_set, List.length_replicate, List.length_nil]) rfl
            replace hI := hI.renum 3 rfl
            replace hI := hI.renum 6 rfl
            exact hJ928 (l799, l802, l805.set ((idx (l816.set (w64 ((l816.length : Int) - 1)).toNat (⟨(idx l816 (w64 ((l816.length : Int) - 1))).node, bAnd .u64 ((idx l816 (w64 ((l816.length : Int) - 1))).left_) (IntKind.wrap .u64 (((idx l816 (w64 ((l816.length : Int) - 1))).left_) - 1))⟩ : GraphFrame)) (w64 ((l816.length : Int) - 1))).node).toNat (gMin (idx l805 ((idx (l816.set (w64 ((l816.length : Int) - 1)).toNat (⟨(idx l816 (w64 ((l816.length : Int) - 1))).node, bAnd .u64 ((idx l816 (w64 ((l816.length : Int) - 1))).left_) (IntKind.wrap .u64 (((idx l816 (w64 ((l816.length : Int) - 1))).left_) - 1))⟩ : GraphFrame)) (w64 ((l816.length : Int) - 1))).node)) (idx l802 y990)), l808, l811, x814, x815, l816.set (w64 ((l816.length : Int) - 1)).toNat (⟨(idx l816 (w64 ((l816.length : Int) - 1))).node, bAnd .u64 ((idx l816 (w64 ((l816.length : Int) - 1))).left_) (IntKind.wrap .u64 (((idx l816 (w64 ((l816.length : Int) - 1))).left_) - 1))⟩ : GraphFrame)) _ _ ⟨_, A800, c801, (some ⟨b1026, 0, none⟩), c804, (some ⟨b1074, 0, none⟩), c807, (some ⟨b1071, 0, none⟩), c810, A812, c813, (some ⟨b932, 0, none⟩), c818, at_slots _ (by kernel_rfl), hI⟩ H
          · refine go_else' (t := (idx l808 y990 == 0)) (by kernel_rfl) hc1072 ?_
            refine go_skip ?_
            refine go_exit rfl ?_
            refine go_is 4 (.slice (some ⟨b932, 0, none⟩) l816.length c818) (.slice (some ⟨b932, 0, none⟩) ((l816.set (w64 ((l816.length : Int) - 1)).toNat (⟨(idx l816 (w64 ((l816.length : Int) - 1))).node, bAnd .u64 ((idx l816 (w64 ((l816.length : Int) - 1))).left_) (IntKind.wrap .u64 (((idx l816 (w64 ((l816.length : Int) - 1))).left_) - 1))⟩ : GraphFrame)).length) c818) (by kernel_rfl) (by first | rfl | simp only [List.length_set, List.length_replicate, List.length_nil]) ?_
            replace hI := hI.renum 6 rfl
            exact hJ928 (l799, l802, l805, l808, l811, x814, x815, l816.set (w64 ((l816.length : Int) - 1)).toNat (⟨(idx l816 (w64 ((l816.length : Int) - 1))).node, bAnd .u64 ((idx l816 (w64 ((l816.length : Int) - 1))).left_) (IntKind.wrap .u64 (((idx l816 (w64 ((l816.length : Int) - 1))).left_) - 1))⟩ : GraphFrame)) _ _ ⟨_, A800, c801, (some ⟨b1026, 0, none⟩), c804, A806, c807, (some ⟨b1071, 0, none⟩), c810, A812, c813, (some ⟨b932, 0, none⟩), c818, at_slots _ (by kernel_rfl), hI⟩ H
      · refine go_else' (t := ((idx l816 (w64 ((l816.length : Int) - 1))).left_ != 0)) (by kernel_rfl) hc987 ?_
        refine go_skip ?_
        refine go_seq ?_
        refine r_in ?_
        refine o_batch 0 [(b932, 0 + (w64 ((l816.length : Int) - 1)).toNat * 2, [.int .i64 ((idx l816 (w64 ((l816.length : Int) - 1))).node), .int .u64 ((idx l816 (w64 ((l816.length : Int) - 1))).left_)])] [.p, .p, .p, .l 0 0, .p] [(110, .pointer (some ⟨b932, 0 + (w64 ((l816.length : Int) - 1)).toNat * 2, none⟩)), (111, .pointer (some ⟨b932, 0 + (w64 ((l816.length : Int) - 1)).toNat * 2, none⟩)), (112, .pointer (some ⟨b932, 0 + (w64 ((l816.length : Int) - 1)).toNat * 2, none⟩)), (113, .int .i64 ((idx l816 (w64 ((l816.length : Int) - 1))).node)), (7, .int .i64 ((idx l816 (w64 ((l816.length : Int) - 1))).node))] [] ⟨(rdS.flook (hI.row 6 rfl) (hI.rowlen 6 rfl) g931).ok, trivial⟩ trivial (by kernel_rfl) (by kernel_rfl) (by kernel_rfl) ?_
        refine r_out (by kernel_rfl) ?_
        refine go_seq ?_
        refine r_in ?_
        replace H := must_some H
        obtain ⟨g1076, H⟩ := H
        refine o_batch 0 [] [.p, .p, .p, .p, .x, .p] [(114, .slice (some ⟨b932, 0, none⟩) l816.length c818), (115, .slice (some ⟨b932, 0, none⟩) l816.length c818), (116, .int .i64 (l816.length : Int)), (117, .int .i64 (w64 ((l816.length : Int) - 1))), (118, .slice (some ⟨b932, 0, none⟩) ((w64 ((l816.length : Int) - 1)).toNat) c818), (4, .slice (some ⟨b932, 0, none⟩) ((w64 ((l816.length : Int) - 1)).toNat) c818)] [(w64 ((l816.length : Int) - 1), c818 + 1)] trivial ⟨(hI.frontle 6 g1076 rfl), trivial⟩ (by kernel_rfl) (by kernel_rfl) (by kernel_rfl) ?_
        replace hI := hI.front 6 (w64 ((l816.length : Int) - 1)) g1076 rfl
        refine r_out (by kernel_rfl) ?_
        refine go_seq_join (o := o1) (fun l1082 f w => ∃ (j : Nat → Value) (A1083 : Option Addr) (c1084 : Nat), f = updL j [(0, .pointer (some ⟨b0z, 0, none⟩)), (4, .slice (some ⟨b932, 0, none⟩) ((l816.take (w64 ((l816.length : Int) - 1)).toNat).length) c818), (7, .int .i64 ((idx l816 (w64 ((l816.length : Int) - 1))).node))] ∧ Inv M w [.blk b0z 65 [.slice A800 l799.length c801, .slice A803 l802.length c804, .slice A1083 l1082.length c1084, .slice A809 l808.length c810, .slice A812 l811.length c813, .int .i64 x814, .int .i64 x815], .row (tInt .u64) 54 A800 l799.length c801 l799, .row (tInt .i64) 3 A803 l802.length c804 l802, .row (tInt .i64) 3 A1083 l1082.length c1084 l1082, .row (tInt .i64) 3 A809 l808.length c810 l808, .row (tInt .i64) 3 A812 l811.length c813 l811, .row kGraphFrame 77 (some ⟨b932, 0, none⟩) ((l816.take (w64 ((l816.length : Int) - 1)).toNat).length) c818 (l816.take (w64 ((l816.length : Int) - 1)).toNat)]) (fun l1082 => graph_walk_down.j3 l799 l802 l808 l811 x814 x815 l816 l1082) ?_ (fun hJ1085 => ?_)
        · clear H hI
          rintro l1082 _ _ ⟨_, A1083, c1084, rfl, hI⟩ H
          refine go_seq ?_
          replace H := must_some H
          obtain ⟨g1090, H⟩ := H
          obtain ⟨b1091, rfl⟩ := hI.rowAt 3 rfl g1090
          replace H := must_some H
          obtain ⟨g1092, H⟩ := H
          obtain ⟨b1093, rfl⟩ := hI.rowAt 2 rfl g1092
          refine d_still [(b0z, 0, [.slice A800 l799.length c801, .slice (some ⟨b1093, 0, none⟩) l802.length c804, .slice (some ⟨b1091, 0, none⟩) l1082.length c1084, .slice A809 l808.length c810, .slice A812 l811.length c813, .int .i64 x814, .int .i64 x815]), (b1091, 0 + ((idx l816 (w64 ((l816.length : Int) - 1))).node).toNat * 1, [.int .i64 (idx l1082 ((idx l816 (w64 ((l816.length : Int) - 1))).node))]), (b1093, 0 + ((idx l816 (w64 ((l816.length : Int) - 1))).node).toNat * 1, [.int .i64 (idx l802 ((idx l816 (w64 ((l816.length : Int) - 1))).node))])] [.p, .p, .p, .l 0 2, .p, .x, .l 1 0, .p, .p, .p, .l 0 1, .p, .x, .l 2 0, .p] [(150, .pointer (some ⟨b0z, 0, none⟩)), (151, .pointer (some ⟨b0z, 0, none⟩)), (152, .pointer (some ⟨b0z, 2, none⟩)), (153, .slice (some ⟨b1091, 0, none⟩) l1082.length c1084), (154, .int .i64 ((idx l816 (w64 ((l816.length : Int) - 1))).node)), (155, .pointer (some ⟨b1091, 0 + ((idx l816 (w64 ((l816.length : Int) - 1))).node).toNat * 1, none⟩)), (156, .int .i64 (idx l1082 ((idx l816 (w64 ((l816.length : Int) - 1))).node))), (157, .pointer (some ⟨b0z, 0, none⟩)), (158, .pointer (some ⟨b0z, 0, none⟩)), (159, .pointer (some ⟨b0z, 1, none⟩)), (160, .slice (some ⟨b1093, 0, none⟩) l802.length c804), (161, .int .i64 ((idx l816 (w64 ((l816.length : Int) - 1))).node)), (162, .pointer (some ⟨b1093, 0 + ((idx l816 (w64 ((l816.length : Int) - 1))).node).toNat * 1, none⟩)), (163, .int .i64 (idx l802 ((idx l816 (w64 ((l816.length : Int) - 1))).node))), (164, .bool (idx l1082 ((idx l816 (w64 ((l816.length : Int) - 1))).node) == idx l802 ((idx l816 (w64 ((l816.length : Int) - 1))).node)))] [((idx l816 (w64 ((l816.length : Int) - 1))).node, l1082.length), ((idx l816 (w64 ((l816.length : Int) - 1))).node, l802.length)] (by kernel_rfl) (by kernel_rfl) rfl ⟨(hI.grp 0 rfl), (rdS.flook (hI.row 3 rfl) (hI.rowlen 3 rfl) g1090).ok, (rdS.flook (hI.row 2 rfl) (hI.rowlen 2 rfl) g1092).ok, trivial⟩ ⟨g1090, g1092, trivial⟩ (by kernel_rfl) (by kernel_rfl) (by kernel_rfl) hI ?_
          clear hI
          intro _ hI
          replace H := cond_some H
          rcases H with ⟨hc1094, H⟩ | ⟨hc1094, H⟩
          · refine go_then' (t := (idx l1082 ((idx l816 (w64 ((l816.length : Int) - 1))).node) == idx l802 ((idx l816 (w64 ((l816.length : Int) - 1))).node))) (by kernel_rfl) hc1094 ?_
            refine r_in ?_
            refine o_batch 0 [] [.p, .p] [(165, .pointer (some ⟨b0z, 0, none⟩)), (166, .int .i64 ((idx l816 (w64 ((l816.length : Int) - 1))).node))] [] trivial trivial (by kernel_rfl) (by kernel_rfl) (by kernel_rfl) ?_
            replace H := bind_some H
            obtain ⟨y1100, hy1101, H⟩ := H
            obtain ⟨M1095, hJ1096, hs1097, hro1098, hback1099⟩ := hI.call (R := [.blk b0z 65 [.slice A800 l799.length c801, .slice (some ⟨b1093, 0, none⟩) l802.length c804, .slice (some ⟨b1091, 0, none⟩) l1082.length c1084, .slice A809 l808.length c810, .slice A812 l811.length c813, .int .i64 x814, .int .i64 x815], .row (tInt .u64) 54 A800 l799.length c801 l799, .row (tInt .i64) 3 (some ⟨b1093, 0, none⟩) l802.length c804 l802, .row (tInt .i64) 3 (some ⟨b1091, 0, none⟩) l1082.length c1084 l1082, .row (tInt .i64) 3 A809 l808.length c810 l808, .row (tInt .i64) 3 A812 l811.length c813 l811]) (L0 := [.row kGraphFrame 77 (some ⟨b932, 0, none⟩) ((l816.take (w64 ((l816.length : Int) - 1)).toNat).length) c818 (l816.take (w64 ((l816.length : Int) - 1)).toNat)]) [0, 1, 2, 3, 4, 5] [6] (by decide) rfl
            refine o_eff 2 _ rfl (by kernel_rfl) ?_
            refine e_callf _ _ _ 44 #[] #[] #[.pointer (some ⟨b0z, 0, none⟩), .int .i64 ((idx l816 (w64 ((l816.length : Int) - 1))).node)] #[.pointer (some ⟨b0z, 0, none⟩), .int .i64 ((idx l816 (w64 ((l816.length : Int) - 1))).node)] rfl (by kernel_rfl) (by kernel_rfl) (by kernel_rfl) (enter44 _) (graph_walk_shut_calls b0z (⟨l799, l802, l1082, l808, l811, x814, x815⟩ : GraphWalk) A800 c801 (some ⟨b1093, 0, none⟩) c804 (some ⟨b1091, 0, none⟩) c1084 A809 c810 A812 c813 ((idx l816 (w64 ((l816.length : Int) - 1))).node) M1095 _ hJ1096 _ hy1101) ?_
            rintro _ _ ⟨A1102, c1103, A1104, c1105, A1106, c1107, A1108, c1109, A1110, c1111, rfl, hI'⟩
            replace hI := hback1099 _ _ hI'
            clear hI'
            refine ⟨_, rfl, ?_⟩
            refine r_out (by kernel_rfl) ?_
            refine go_inBlock ?_
            exact hJ928 (y1100.steps, y1100.num, y1100.low, y1100.part, y1100.open_, y1100.count, y1100.parts, l816.take (w64 ((l816.length : Int) - 1)).toNat) _ _ ⟨_, A1102, c1103, A1104, c1105, A1106, c1107, A1108, c1109, A1110, c1111, (some ⟨b932, 0, none⟩), c818, at_slots _ (by kernel_rfl), hI⟩ H
          · refine go_else' (t := (idx l1082 ((idx l816 (w64 ((l816.length : Int) - 1))).node) == idx l802 ((idx l816 (w64 ((l816.length : Int) - 1))).node))) (by kernel_rfl) hc1094 ?_
            refine go_skip ?_
            refine go_inBlock ?_
            exact hJ928 (l799, l802, l1082, l808, l811, x814, x815, l816.take (w64 ((l816.length : Int) - 1)).toNat) _ _ ⟨_, A800, c801, (some ⟨b1093, 0, none⟩), c804, (some ⟨b1091, 0, none⟩), c1084, A809, c810, A812, c813, (some ⟨b932, 0, none⟩), c818, at_slots _ (by kernel_rfl), hI⟩ H
        · refine go_seq ?_
          refine r_in ?_
          refine o_batch 0 [] [.p, .p, .p] [(119, .slice (some ⟨b932, 0, none⟩) ((w64 ((l816.length : Int) - 1)).toNat) c818), (120, .int .i64 ((w64 ((l816.length : Int) - 1)).toNat : Int)), (121, .bool (decide (((w64 ((l816.length : Int) - 1)).toNat : Int) > 0)))] [] trivial trivial (by kernel_rfl) (by kernel_rfl) (by kernel_rfl) ?_
          refine r_out (by kernel_rfl) ?_
          replace H := cond_some H
          rcases H with ⟨hc1112, H⟩ | ⟨hc1112, H⟩
          · refine go_then' (t := decide (((w64 ((l816.length : Int) - 1)).toNat : Int) > 0)) (by kernel_rfl) hc1112 ?_
            refine go_seq ?_
            refine r_in ?_
            replace H := must_some H
            obtain ⟨g1114, H⟩ := H
            refine o_batch 0 [(b932, 0 + (w64 (((w64 ((l816.length : Int) - 1)).toNat : Int) - 1)).toNat * 2, [.int .i64 ((idx (l816.take (w64 ((l816.length : Int) - 1)).toNat) (w64 (((w64 ((l816.length : Int) - 1)).toNat : Int) - 1))).node), .int .u64 ((idx (l816.take (w64 ((l816.length : Int) - 1)).toNat) (w64 (((w64 ((l816.length : Int) - 1)).toNat : Int) - 1))).left_)])] [.p, .p, .p, .p, .x, .p, .l 0 0, .p] [(122, .slice (some ⟨b932, 0, none⟩) ((w64 ((l816.length : Int) - 1)).toNat) c818), (123, .slice (some ⟨b932, 0, none⟩) ((w64 ((l816.length : Int) - 1)).toNat) c818), (124, .int .i64 ((w64 ((l816.length : Int) - 1)).toNat : Int)), (125, .int .i64 (w64 (((w64 ((l816.length : Int) - 1)).toNat : Int) - 1))), (126, .pointer (some ⟨b932, 0 + (w64 (((w64 ((l816.length : Int) - 1)).toNat : Int) - 1)).toNat * 2, none⟩)), (127, .pointer (some ⟨b932, 0 + (w64 (((w64 ((l816.length : Int) - 1)).toNat : Int) - 1)).toNat * 2, none⟩)), (128, .int .i64 ((idx (l816.take (w64 ((l816.length : Int) - 1)).toNat) (w64 (((w64 ((l816.length : Int) - 1)).toNat : Int) - 1))).node)), (8, .int .i64 ((idx (l816.take (w64 ((l816.length : Int) - 1)).toNat) (w64 (((w64 ((l816.length : Int) - 1)).toNat : Int) - 1))).node))] [(w64 (((w64 ((l816.length : Int) - 1)).toNat : Int) - 1), (w64 ((l816.length : Int) - 1)).toNat)] ⟨(rdS.flook (hI.row 6 rfl) (hI.rowlen 6 rfl) g1114).ok, trivial⟩ ⟨g1114, trivial⟩ (by kernel_rfl) (by kernel_rfl) (by kernel_rfl) ?_
            refine r_out (by kernel_rfl) ?_
            replace H := must_some H
            obtain ⟨g1115, H⟩ := H
            obtain ⟨b1116, rfl⟩ := hI.rowAt 3 rfl g1115
            replace H := must_some H
            obtain ⟨g1117, H⟩ := H
            refine d_tail' 21 _ [(b0z, 0, [.slice A800 l799.length c801, .slice A803 l802.length c804, .slice (some ⟨b1116, 0, none⟩) l805.length c807, .slice A809 l808.length c810, .slice A812 l811.length c813, .int .i64 x814, .int .i64 x815]), (b1116, 0 + ((idx (l816.take (w64 ((l816.length : Int) - 1)).toNat) (w64 (((w64 ((l816.length : Int) - 1)).toNat : Int) - 1))).node).toNat * 1, [.int .i64 (idx l805 ((idx (l816.take (w64 ((l816.length : Int) - 1)).toNat) (w64 (((w64 ((l816.length : Int) - 1)).toNat : Int) - 1))).node))]), (b1116, 0 + ((idx l816 (w64 ((l816.length : Int) - 1))).node).toNat * 1, [.int .i64 (idx l805 ((idx l816 (w64 ((l816.length : Int) - 1))).node))])] [.p, .p, .p, .l 0 2, .p, .p, .p, .p, .l 0 2, .p, .x, .l 1 0, .p, .p, .p, .l 0 2, .p, .x, .l 2 0, .p, .x] [(129, .pointer (some ⟨b0z, 0, none⟩)), (130, .pointer (some ⟨b0z, 0, none⟩)), (131, .pointer (some ⟨b0z, 2, none⟩)), (132, .slice (some ⟨b1116, 0, none⟩) l805.length c807), (133, .int .i64 ((idx (l816.take (w64 ((l816.length : Int) - 1)).toNat) (w64 (((w64 ((l816.length : Int) - 1)).toNat : Int) - 1))).node)), (134, .pointer (some ⟨b0z, 0, none⟩)), (135, .pointer (some ⟨b0z, 0, none⟩)), (136, .pointer (some ⟨b0z, 2, none⟩)), (137, .slice (some ⟨b1116, 0, none⟩) l805.length c807), (138, .int .i64 ((idx (l816.take (w64 ((l816.length : Int) - 1)).toNat) (w64 (((w64 ((l816.length : Int) - 1)).toNat : Int) - 1))).node)), (139, .pointer (some ⟨b1116, 0 + ((idx (l816.take (w64 ((l816.length : Int) - 1)).toNat) (w64 (((w64 ((l816.length : Int) - 1)).toNat : Int) - 1))).node).toNat * 1, none⟩)), (140, .int .i64 (idx l805 ((idx (l816.take (w64 ((l816.length : Int) - 1)).toNat) (w64 (((w64 ((l816.length : Int) - 1)).toNat : Int) - 1))).node))), (141, .pointer (some ⟨b0z, 0, none⟩)), (142, .pointer (some ⟨b0z, 0, none⟩)), (143, .pointer (some ⟨b0z, 2, none⟩)), (144, .slice (some ⟨b1116, 0, none⟩) l805.length c807), (145, .int .i64 ((idx l816 (w64 ((l816.length : Int) - 1))).node)), (146, .pointer (some ⟨b1116, 0 + ((idx l816 (w64 ((l816.length : Int) - 1))).node).toNat * 1, none⟩)), (147, .int .i64 (idx l805 ((idx l816 (w64 ((l816.length : Int) - 1))).node))), (148, .int .i64 (gMin (idx l805 ((idx (l816.take (w64 ((l816.length : Int) - 1)).toNat) (w64 (((w64 ((l816.length : Int) - 1)).toNat : Int) - 1))).node)) (idx l805 ((idx l816 (w64 ((l816.length : Int) - 1))).node)))), (149, .pointer (some ⟨b1116, 0 + ((idx (l816.take (w64 ((l816.length : Int) - 1)).toNat) (w64 (((w64 ((l816.length : Int) - 1)).toNat : Int) - 1))).node).toNat * 1, none⟩))] [((idx (l816.take (w64 ((l816.length : Int) - 1)).toNat) (w64 (((w64 ((l816.length : Int) - 1)).toNat : Int) - 1))).node, l805.length), ((idx l816 (w64 ((l816.length : Int) - 1))).node, l805.length), ((idx (l816.take (w64 ((l816.length : Int) - 1)).toNat) (w64 (((w64 ((l816.length : Int) - 1)).toNat : Int) - 1))).node, l805.length)] (by kernel_rfl) (by kernel_rfl) rfl rfl ⟨(hI.grp 0 rfl), (rdS.flook (hI.row 3 rfl) (hI.rowlen 3 rfl) g1115).ok, (rdS.flook (hI.row 3 rfl) (hI.rowlen 3 rfl) g1117).ok, trivial⟩ ⟨g1115, g1117, g1115, trivial⟩ (by kernel_rfl) (by kernel_rfl) (by kernel_rfl) (by kernel_rfl) hI ?_
            clear hI
            intro _ hI hsame
            refine e_put 3 _ _ 3 b1116 3 l805.length c807 l805 (gMin (idx l805 ((idx (l816.take (w64 ((l816.length : Int) - 1)).toNat) (w64 (((w64 ((l816.length : Int) - 1)).toNat : Int) - 1))).node)) (idx l805 ((idx l816 (w64 ((l816.length : Int) - 1))).node))) ((idx (l816.take (w64 ((l816.length : Int) - 1)).toNat) (w64 (((w64 ((l816.length : Int) - 1)).toNat : Int) - 1))).node) 0 (.int .i64 (gMin (idx l805 ((idx (l816.take (w64 ((l816.length : Int) - 1)).toNat) (w64 (((w64 ((l816.length : Int) - 1)).toNat : Int) - 1))).node)) (idx l805 ((idx l816 (w64 ((l816.length : Int) - 1))).node)))) rfl (by kernel_rfl) (by kernel_rfl) (by kernel_rfl) (by kernel_rfl) hI rfl (by simpa only [List.length_set, List.length_replicate] using g1115) (by kernel_rfl) (by kernel_rfl) ?_
            clear hI
            intro _ hI
            refine go_is 4 (.slice (some ⟨b932, 0, none⟩) ((w64 ((l816.length : Int) - 1)).toNat) c818) (.slice (some ⟨b932, 0, none⟩) ((l816.take (w64 ((l816.length : Int) - 1)).toNat).length) c818) (by kernel_rfl) (by first | rfl | simp only [List.length_set, List.length_replicate, List.length_nil, hI.rowlen 3 rfl, hI.rowlen 6 rfl]) ?_
            replace hI := hI.recell 0 [.slice A800 l799.length c801, .slice A803 l802.length c804, .slice (some ⟨b1116, 0, none⟩) ((l805.set ((idx (l816.take (w64 ((l816.length : Int) - 1)).toNat) (w64 (((w64 ((l816.length : Int) - 1)).toNat : Int) - 1))).node).toNat (gMin (idx l805 ((idx (l816.take (w64 ((l816.length : Int) - 1)).toNat) (w64 (((w64 ((l816.length : Int) - 1)).toNat : Int) - 1))).node)) (idx l805 ((idx l816 (w64 ((l816.length : Int) - 1))).node)))).length) c807, .slice A809 l808.length c810, .slice A812 l811.length c813, .int .i64 x814, .int .i64 x815] (by first | rfl | simp only [List.length_set, List.length_replicate, List.length_nil, hI.rowlen 3 rfl, hI.rowlen 6 rfl]) rfl
            replace hI := hI.renum 3 rfl
            replace hI := hI.renum 6 rfl
            exact hJ1085 (l805.set ((idx (l816.take (w64 ((l816.length : Int) - 1)).toNat) (w64 (((w64 ((l816.length : Int) - 1)).toNat : Int) - 1))).node).toNat (gMin (idx l805 ((idx (l816.take (w64 ((l816.length : Int) - 1)).toNat) (w64 (((w64 ((l816.length : Int) - 1)).toNat : Int) - 1))).node)) (idx l805 ((idx l816 (w64 ((l816.length : Int) - 1))).node)))) _ _ ⟨_, (some ⟨b1116, 0, none⟩), c807, at_slots _ (by kernel_rfl), hI⟩ H
          · refine go_else' (t := decide (((w64 ((l816.length : Int) - 1)).toNat : Int) > 0)) (by kernel_rfl) hc1112 ?_
            refine go_skip ?_
            refine go_is 4 (.slice (some ⟨b932, 0, none⟩) ((w64 ((l816.length : Int) - 1)).toNat) c818) (.slice (some ⟨b932, 0, none⟩) ((l816.take (w64 ((l816.length : Int) - 1)).toNat).length) c818) (by kernel_rfl) (by first | rfl | simp only [List.length_set, List.length_replicate, List.length_nil, hI.rowlen 6 rfl]) ?_
            replace hI := hI.renum 6 rfl
            exact hJ1085 l805 _ _ ⟨_, A806, c807, at_slots _ (by kernel_rfl), hI⟩ H
  · refine go_else' (t := decide ((l816.length : Int) > 0)) (by kernel_rfl) hc820 ?_
    refine go_exit rfl ?_
    replace H := out_some H
    obtain ⟨_, H, he1⟩ := H
    have he := (hout1 _ he1).symm
    subst he
    replace H := Option.some.inj H
    subst H
    exact go_finish (.tuple #[]) Tryd.func37 (by kernel_rfl) ⟨A800, c801, A803, c804, A806, c807, A809, c810, A812, c813, rfl, hI.pick [0, 1, 2, 3, 4, 5] (by decide) rfl⟩

/-! ### graph.renumbered -/
theorem enter38 (a : Array Value) : Sem.pureRun Tryd.prog (callFunc 38 a) = some (.enter 38 a) := by kernel_rfl
theorem graph_renumbered_calls (A0z : Option Addr) (c0z : Nat) (a0 : List Int) (M : Mem) (w : World) (hI : Inv M w []) (hr0z : rdS (tInt .i64) M.blk A0z a0) (hl0z : a0.length ≤ c0z) (r : List Int) (H : graph_renumbered a0 = some r) :
    Calls Tryd.prog 38 #[.slice A0z a0.length c0z] w fun e w' => ∃ (A187 : Option Addr) (c188 : Nat), e = .returned (.slice A187 r.length c188) ∧ Inv M w' [.row (tInt .i64) 3 A187 r.length c188 r] := by
  refine calls_go (updL (fun _ => undef) [(0, .slice A0z a0.length c0z)]) Tryd.func38 rfl (by kernel_rfl) ?_
  intro cs
  unfold graph_renumbered at H
  refine go_seq ?_
  refine r_in ?_
  refine o_batch 0 [] [.p] [(2, .slice none 0 0)] [] trivial trivial (by kernel_rfl) (by kernel_rfl) (by kernel_rfl) ?_
  refine r_out (by kernel_rfl) ?_
  refine go_seq ?_
  refine r_in ?_
  refine o_eff 0 _ rfl (by kernel_rfl) ?_
  refine e_makemap Int Int (fun x : Int => .int .i64 x) (fun x : Int => .int .i64 x) 80 rfl hI ?_
  clear hI
  intro b2 _ hI
  refine o_batch 1 [] [.p] [(3, .map (some b2))] [] trivial trivial (by kernel_rfl) (by kernel_rfl) (by kernel_rfl) ?_
  refine r_out (by kernel_rfl) ?_
  refine go_seq ?_
  refine r_in ?_
  refine o_batch 0 [] [.p, .p] [(10, .slice A0z a0.length c0z), (11, .int .i64 (a0.length : Int))] [] trivial trivial (by kernel_rfl) (by kernel_rfl) (by kernel_rfl) ?_
  replace H := must_some H
  obtain ⟨g5, H⟩ := H
  refine o_eff 2 _ rfl (by kernel_rfl) ?_
  refine e_make (tInt .i64) (default : Int) 43 3 _ _ _ (.int .i64 0) (a0.length : Int) rfl rfl rfl rfl rfl rfl (fun _ => rfl) (by kernel_rfl) (by kernel_rfl) g5 hI ?_
  clear hI
  intro b6 _ hI
  refine o_batch 3 [] [.p] [(4, .slice (some ⟨b6, 0, none⟩) ((a0.length : Int).toNat) ((a0.length : Int).toNat))] [] trivial trivial (by kernel_rfl) (by kernel_rfl) (by kernel_rfl) ?_
  refine r_out (by kernel_rfl) ?_
  refine go_seq ?_
  refine go_seq ?_
  refine r_in ?_
  refine o_batch 0 [] [.p, .p, .p] [(13, .slice A0z a0.length c0z), (14, .int .i64 (a0.length : Int)), (15, .int .i64 0)] [] trivial trivial (by kernel_rfl) (by kernel_rfl) (by kernel_rfl) ?_
  refine r_out (by kernel_rfl) ?_
  refine go_block ?_
  refine go_is 4 (.slice (some ⟨b6, 0, none⟩) ((a0.length : Int).toNat) ((a0.length : Int).toNat)) (.slice (some ⟨b6, 0, none⟩) ((List.replicate (a0.length : Int).toNat (default : Int)).length) ((a0.length : Int).toNat)) (by kernel_rfl) (by first | rfl | simp only [List.length_set, List.length_replicate, List.length_nil]) ?_
  replace hI := hI.renum 1 rfl
  refine go_iter (graph_renumbered.s1 a0) (fun (m153, l154, x157) f w => ∃ (j : Nat → Value) (A155 : Option Addr) (c156 : Nat), f = updL j [(3, .map (some b2)), (4, .slice A155 l154.length c156), (13, .slice A0z a0.length c0z), (14, .int .i64 (a0.length : Int)), (15, .int .i64 x157)] ∧ Inv M w [mapA (fun x : Int => .int .i64 x) (fun x : Int => .int .i64 x) b2 m153, .row (tInt .i64) 3 A155 l154.length c156 l154]) H ⟨_, (some ⟨b6, 0, none⟩), (a0.length : Int).toNat, at_slots _ (by kernel_rfl), hI⟩ ?_
  clear H hI
  rintro ⟨m153, l154, x157⟩ _ _ o1 H ⟨_, A155, c156, rfl, hI⟩ hin1 hout1
  refine go_seq ?_
  refine r_in ?_
  refine o_batch 0 [] [.p] [(16, .bool (decide (x157 < (a0.length : Int))))] [] trivial trivial (by kernel_rfl) (by kernel_rfl) (by kernel_rfl) ?_
  refine r_out (by kernel_rfl) ?_
  refine go_seq ?_
  replace H := cond_some H
  rcases H with ⟨hc159, H⟩ | ⟨hc159, H⟩
  · refine go_then' (t := decide (x157 < (a0.length : Int))) (by kernel_rfl) hc159 ?_
    refine go_skip ?_
    refine go_seq ?_
    refine go_block ?_
    refine go_seq ?_
    refine r_in ?_
    replace H := must_some H
    obtain ⟨g177, H⟩ := H
    obtain ⟨b178, q179, rfl, _⟩ := rdS.fopen hr0z rfl g177
    refine o_batch 0 [(b178, q179 + x157.toNat * 1, [.int .i64 (idx a0 x157)])] [.p, .x, .l 0 0, .p, .p] [(17, .int .i64 x157), (18, .pointer (some ⟨b178, q179 + x157.toNat * 1, none⟩)), (19, .int .i64 (idx a0 x157)), (5, .int .i64 x157), (6, .int .i64 (idx a0 x157))] [(x157, a0.length)] ⟨(hI.lies (rdS.flook hr0z rfl g177)), trivial⟩ ⟨g177, trivial⟩ (by kernel_rfl) (by kernel_rfl) (by kernel_rfl) ?_
    refine r_out (by kernel_rfl) ?_
    refine go_seq_join (o := o1) (fun m181 f w => ∃ (j : Nat → Value), f = updL j [(3, .map (some b2)), (4, .slice A155 l154.length c156), (5, .int .i64 x157), (6, .int .i64 (idx a0 x157)), (13, .slice (some ⟨b178, q179, none⟩) a0.length c0z), (14, .int .i64 (a0.length : Int)), (15, .int .i64 x157)] ∧ Inv M w [mapA (fun x : Int => .int .i64 x) (fun x : Int => .int .i64 x) b2 m181, .row (tInt .i64) 3 A155 l154.length c156 l154]) (fun m181 => graph_renumbered.j2 a0 l154 x157 m181) ?_ (fun hJ182 => ?_)
    · clear H hI
      rintro m181 _ _ ⟨_, rfl, hI⟩ H
      refine r_in ?_
      refine o_batch 0 [] [.p, .p, .p, .p] [(32, .slice A155 l154.length c156), (33, .int .i64 x157), (34, .map (some b2)), (35, .int .i64 (idx a0 x157))] [] trivial trivial (by kernel_rfl) (by kernel_rfl) (by kernel_rfl) ?_
      refine o_eff 4 _ rfl (by kernel_rfl) ?_
      refine e_lookup (ek := (fun x : Int => .int .i64 x)) (ev := (fun x : Int => .int .i64 x)) 80 3 3 _ _ false b2 m181 (idx a0 x157) rfl (by kernel_rfl) (key_int (by kernel_rfl)) (fun _ => by kernel_rfl) (by kernel_rfl) (by kernel_rfl) (hI.mapAt 0 rfl) ?_
      replace H := must_some H
      obtain ⟨g183, H⟩ := H
      obtain ⟨b184, rfl⟩ := hI.rowAt 1 rfl g183
      refine o_batch 5 [] [.x] [(37, .pointer (some ⟨b184, 0 + x157.toNat * 1, none⟩))] [(x157, l154.length)] trivial ⟨g183, trivial⟩ (by kernel_rfl) (by kernel_rfl) (by kernel_rfl) ?_
      refine o_eff 6 _ rfl (by kernel_rfl) ?_
      refine e_put 3 _ _ 1 b184 3 l154.length c156 l154 (mat m181 (idx a0 x157)) x157 0 (.int .i64 (mat m181 (idx a0 x157))) rfl (by kernel_rfl) (by kernel_rfl) (by kernel_rfl) (by kernel_rfl) hI rfl g183 (by kernel_rfl) (by kernel_rfl) ?_
      clear hI
      intro _ hI
      refine r_out (by kernel_rfl) ?_
      refine go_inBlock ?_
      refine r_in ?_
      refine o_batch 0 [] [.p, .p] [(38, .int .i64 (w64 (x157 + 1))), (15, .int .i64 (w64 (x157 + 1)))] [] trivial trivial (by kernel_rfl) (by kernel_rfl) (by kernel_rfl) ?_
      refine r_out (by kernel_rfl) ?_
      refine go_is 4 (.slice (some ⟨b184, 0, none⟩) l154.length c156) (.slice (some ⟨b184, 0, none⟩) ((l154.set x157.toNat (mat m181 (idx a0 x157))).length) c156) (by kernel_rfl) (by first | rfl | simp only [List.length_set, List.length_replicate, List.length_nil]) ?_
      replace hI := hI.renum 1 rfl
      exact hin1 _ (Option.some.inj H).symm _ _ ⟨_, (some ⟨b184, 0, none⟩), c156, at_slots _ (by kernel_rfl), hI⟩
    · refine go_seq ?_
      refine r_in ?_
      refine o_batch 0 [] [.p, .p] [(21, .map (some b2)), (22, .int .i64 (idx a0 x157))] [] trivial trivial (by kernel_rfl) (by kernel_rfl) (by kernel_rfl) ?_
      refine o_eff 2 _ rfl (by kernel_rfl) ?_
      refine e_lookup (ek := (fun x : Int => .int .i64 x)) (ev := (fun x : Int => .int .i64 x)) 80 3 3 _ _ true b2 m153 (idx a0 x157) rfl (by kernel_rfl) (key_int (by kernel_rfl)) (fun _ => by kernel_rfl) (by kernel_rfl) (by kernel_rfl) (hI.mapAt 0 rfl) ?_
      refine o_batch 3 [] [.p, .p, .p, .p, .p] [(20, .tuple #[.int .i64 (mat m153 (idx a0 x157)), .bool (mhas m153 (idx a0 x157))]), (24, .int .i64 (mat m153 (idx a0 x157))), (25, .bool (mhas m153 (idx a0 x157))), (7, .int .i64 (mat m153 (idx a0 x157))), (8, .bool (mhas m153 (idx a0 x157)))] [] trivial trivial (by kernel_rfl) (by kernel_rfl) (by kernel_rfl) ?_
      refine r_out (by kernel_rfl) ?_
      refine go_seq ?_
      refine r_in ?_
      refine o_batch 0 [] [.p, .p] [(26, .bool (mhas m153 (idx a0 x157))), (27, .bool (!(mhas m153 (idx a0 x157))))] [] trivial trivial (by kernel_rfl) (by kernel_rfl) (by kernel_rfl) ?_
      refine r_out (by kernel_rfl) ?_
      replace H := cond_some H
      rcases H with ⟨hc185, H⟩ | ⟨hc185, H⟩
      · refine go_then' (t := !(mhas m153 (idx a0 x157))) (by kernel_rfl) hc185 ?_
        refine r_in ?_
        refine o_batch 0 [] [.p, .p, .p] [(28, .map (some b2)), (29, .int .i64 (idx a0 x157)), (30, .map (some b2))] [] trivial trivial (by kernel_rfl) (by kernel_rfl) (by kernel_rfl) ?_
        refine o_eff 3 _ rfl (by kernel_rfl) ?_
        refine e_maplen (ek := (fun x : Int => .int .i64 x)) (ev := (fun x : Int => .int .i64 x)) 80 _ _ b2 m153 3 3 rfl rfl (by kernel_rfl) (by kernel_rfl) (hI.mapAt 0 rfl) ?_
        refine o_eff 4 _ rfl (by kernel_rfl) ?_
        refine e_mapput (ek := (fun x : Int => .int .i64 x)) (ev := (fun x : Int => .int .i64 x)) 80 3 3 _ _ _ 0 b2 m153 (idx a0 x157) (m153.length : Int) rfl (by kernel_rfl) (key_int (by kernel_rfl)) (by kernel_rfl) (by kernel_rfl) (by kernel_rfl) hI rfl ?_
        clear hI
        intro _ hI
        refine r_out (by kernel_rfl) ?_
        exact hJ182 (mput m153 (idx a0 x157) (m153.length : Int)) _ _ ⟨_, at_slots _ (by kernel_rfl), hI⟩ H
      · refine go_else' (t := !(mhas m153 (idx a0 x157))) (by kernel_rfl) hc185 ?_
        refine go_skip ?_
        exact hJ182 m153 _ _ ⟨_, at_slots _ (by kernel_rfl), hI⟩ H
  · refine go_else' (t := decide (x157 < (a0.length : Int))) (by kernel_rfl) hc159 ?_
    refine go_exit rfl ?_
    refine go_seq ?_
    refine r_in ?_
    refine o_batch 0 [] [.p, .p] [(39, .slice A155 l154.length c156), (2, .slice A155 l154.length c156)] [] trivial trivial (by kernel_rfl) (by kernel_rfl) (by kernel_rfl) ?_
    refine r_out (by kernel_rfl) ?_
    replace H := out_some H
    obtain ⟨_, H, he1⟩ := H
    have he := (hout1 _ he1).symm
    subst he
    replace H := Option.some.inj H
    subst H
    exact go_return (.slice A155 l154.length c156) Tryd.func38 (by kernel_rfl) ⟨A155, c156, rfl, hI.pick [1] (by decide) rfl⟩

end Go.Proofs.YtncapkloanfmnaaDoorT
