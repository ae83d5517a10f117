/- The walks, part 1: each call computes its plain function. -/
import Derived.Test.YtncapkloanfmnaaDoorTD
import Derived.Shelf.Spec.TrailingZeros
import Derived.Test.YtncapkloanfmnaaDoorProg
namespace Go.Proofs.YtncapkloanfmnaaDoorT
open Go Go.Proofs Go.Shelf Go.Proofs.YtncapkloanfmnaaDoorE
set_option linter.unusedVariables false
set_option linter.unusedSimpArgs false
set_option maxHeartbeats 0
set_option maxRecDepth 4096
theorem keyEdge : KeyL Tryd.prog 40 (fun x : Edge => .agg #[.int .i64 x.From, .int .i64 x.To, .int .i64 x.Kind, .int .i64 x.Key]) := key_agg (P := Tryd.prog) (kt := 40) rfl _ (fun _ _ => by kernel_rfl) (fun a b => ⟨(a.From == b.From && (a.To == b.To && (a.Kind == b.Kind && (a.Key == b.Key && true)))), by kernel_rfl, by obtain ⟨a0, a1, a2, a3⟩ := a; obtain ⟨b0, b1, b2, b3⟩ := b; simp [MapKept.bytes_beq]⟩) (fun x => by simp [Instr.sameBits, MapKept.bytes_beq])
theorem keyRingSpot : KeyL Tryd.prog 99 (fun x : RingSpot => .agg #[.int .i64 x.node, .bool x.last_, .bool x.first_]) := key_agg (P := Tryd.prog) (kt := 99) rfl _ (fun _ _ => by kernel_rfl) (fun a b => ⟨(a.node == b.node && (a.last_ == b.last_ && (a.first_ == b.first_ && true))), by kernel_rfl, by obtain ⟨a0, a1, a2⟩ := a; obtain ⟨b0, b1, b2⟩ := b; simp [MapKept.bytes_beq]⟩) (fun x => by simp [Instr.sameBits, MapKept.bytes_beq])
/-! ### graph_Check_1 -/
theorem enter34 (a : Array Value) : Sem.pureRun Tryd.prog (callFunc 34 a) = some (.enter 34 a) := by kernel_rfl
theorem graph_Check_1zcalls (a0 : Int) (b1z : Nat) (a1 : Graph) (A1z0 : Option Addr) (c1z0 : Nat) (M : Mem) (w : World) (hI : Inv M w []) (hb1z : Lies M.blk (b1z, 0, [vI a1.N, vS A1z0 a1.Edges.length c1z0])) (hr1z0 : rdS kEdge M.blk A1z0 a1.Edges) (hl1z0 : a1.Edges.length ≤ c1z0) (r : Bool) (H : graph_Check_1 a0 a1 = some r) :
    Calls Tryd.prog 34 #[vI a0, vP b1z 0] w fun e w' => e = .returned (vB r) ∧ Inv M w' [] := by
  refine cg Tryd.func34 ?_
  intro cs
  unfold graph_Check_1 at H
  refine go_seq (rp 1 (go_seq (r_in ?_)))
  replace H := cond_some H
  rcases H with ⟨hc2, H⟩ | ⟨hc2, H⟩
  · refine bx 0 [.p, .p, .c true, .p, .p, .l 0 0, .p, .p, .p] (gA (hI.lies hb1z)) _ (bZ (bndEq hc2)) (ro ?_)
    replace H := Option.some.inj H
    subst H
    exact gr Tryd.func34 ⟨rfl, hI⟩
  · refine bx 0 [.p, .p, .c false, .p, .p, .p, .p, .p, .p] gO _ (bZ (bndEq hc2)) (ro ?_)
    replace H := Option.some.inj H
    subst H
    exact gr Tryd.func34 ⟨rfl, hI⟩

/-! ### bits_OnesCount32 -/
theorem enter41 (a : Array Value) : Sem.pureRun Tryd.prog (callFunc 41 a) = some (.enter 41 a) := by kernel_rfl
theorem bits_OnesCount32zcalls (a0 : Int) (M : Mem) (w : World) (hI : Inv M w []) (r : Int) (H : bits_OnesCount32 a0 = some r) :
    Calls Tryd.prog 41 #[.int .u32 a0] w fun e w' => e = .returned (vI r) ∧ Inv M w' [] := by
  refine cg Tryd.func41 ?_
  intro cs
  unfold bits_OnesCount32 at H
  refine go_seq (rp 1 (go_seq ?_))
  replace H := must_some H
  obtain ⟨g8, H⟩ := H
  replace H := must_some H
  obtain ⟨g9, H⟩ := H
  replace H := must_some H
  obtain ⟨g10, H⟩ := H
  replace H := must_some H
  obtain ⟨g11, H⟩ := H
  replace H := must_some H
  obtain ⟨g12, H⟩ := H
  replace H := must_some H
  obtain ⟨g13, H⟩ := H
  replace H := must_some H
  obtain ⟨g14, H⟩ := H
  refine dx [.p, .x, .x, .p, .x, .p, .x, .p, .p, .x, .p, .x, .p, .p, .p, .x, .p, .p, .p] gO _ (bC g8 (bC g9 (bC g10 (bC g11 (bC g12 (bC g13 (bZ g14))))))) hI ?_
  clear hI
  intro _ hI
  replace H := Option.some.inj H
  subst H
  exact gr Tryd.func41 ⟨rfl, hI⟩

/-! ### bits_OnesCount64 -/
theorem enter42 (a : Array Value) : Sem.pureRun Tryd.prog (callFunc 42 a) = some (.enter 42 a) := by kernel_rfl
theorem bits_OnesCount64zcalls (a0 : Int) (M : Mem) (w : World) (hI : Inv M w []) (r : Int) (H : bits_OnesCount64 a0 = some r) :
    Calls Tryd.prog 42 #[.int .u64 a0] w fun e w' => e = .returned (vI r) ∧ Inv M w' [] := by
  refine cg Tryd.func42 ?_
  intro cs
  unfold bits_OnesCount64 at H
  refine go_seq (rp 1 (go_seq (r_in ?_)))
  replace H := must_some H
  obtain ⟨g2, H⟩ := H
  refine bx 0 [.p, .x, .p, .p, .p, .p, .p] gO _ (bZ g2) (ro (go_seq (r_in ?_)))
  replace H := must_some H
  obtain ⟨g4, H⟩ := H
  refine bx 0 [.p, .x, .p, .p, .p, .p, .p] gO _ (bZ g4) (ro (go_seq (r_in ?_)))
  replace H := must_some H
  obtain ⟨g6, H⟩ := H
  refine bx 0 [.p, .x, .p, .p, .p, .p] gO _ (bZ g6) (ro (go_seq (r_in ?_)))
  replace H := must_some H
  obtain ⟨g8, H⟩ := H
  refine bx 0 [.p, .p, .x, .p, .p] gO _ (bZ g8) (ro (go_seq (r_in ?_)))
  replace H := must_some H
  obtain ⟨g10, H⟩ := H
  refine bx 0 [.p, .p, .x, .p, .p] gO _ (bZ g10) (ro (go_seq (r_in ?_)))
  replace H := must_some H
  obtain ⟨g12, H⟩ := H
  refine bx 0 [.p, .p, .x, .p, .p] gO _ (bZ g12) (ro (go_seq (rp 4 ?_)))
  replace H := Option.some.inj H
  subst H
  exact gr Tryd.func42 ⟨rfl, hI⟩

/-! ### bits_OnesCount -/
theorem enter35 (a : Array Value) : Sem.pureRun Tryd.prog (callFunc 35 a) = some (.enter 35 a) := by kernel_rfl
theorem bits_OnesCount_calls (a0 : Int) (M : Mem) (w : World) (hI : Inv M w []) (r : Int) (H : bits_OnesCount a0 = some r) :
    Calls Tryd.prog 35 #[.int .u64 a0] w fun e w' => e = .returned (vI r) ∧ Inv M w' [] := by
  refine cg Tryd.func35 ?_
  intro cs
  unfold bits_OnesCount at H
  refine go_seq (rp 1 (go_seq ?_))
  refine go_else (by kernel_rfl) ?_
  refine go_skip (go_seq (r_in (bp 0 1 ?_)))
  replace H := bind_some H
  obtain ⟨y3, hy4, H⟩ := H
  refine oe 1 rfl ?_
  refine ec (enter42 _) (bits_OnesCount64zcalls a0 (memOf _) _ (Inv.start _) _ hy4) ?_
  rintro _ _ ⟨rfl, hI'⟩
  replace hI := hI.call0 hI'
  clear hI'
  refine ⟨_, rfl, ?_⟩
  refine bp 2 1 (ro ?_)
  replace H := Option.some.inj H
  subst H
  exact gr Tryd.func35 ⟨rfl, hI⟩

/-! ### graph_Check -/
theorem enter18 (a : Array Value) : Sem.pureRun Tryd.prog (callFunc 18 a) = some (.enter 18 a) := by kernel_rfl
theorem graph_Check_calls (a0 : Graph) (A0z0 : Option Addr) (c0z0 : Nat) (M : Mem) (w : World) (hI : Inv M w []) (hr0z0 : rdS kEdge M.blk A0z0 a0.Edges) (hl0z0 : a0.Edges.length ≤ c0z0) (r : Int) (H : graph_Check a0 = some r) :
    Calls Tryd.prog 18 #[.agg #[vI a0.N, vS A0z0 a0.Edges.length c0z0]] w fun e w' => e = .returned (vI r) ∧ Inv M w' [] := by
  refine cg Tryd.func18 ?_
  intro cs
  unfold graph_Check at H
  refine go_seq (r_in (oe 0 rfl ?_))
  refine e_box 24 _ (.agg #[vI a0.N, vS A0z0 a0.Edges.length c0z0]) [vI a0.N, vS A0z0 a0.Edges.length c0z0] rfl (by kernel_rfl) rfl hI ?_
  clear hI
  intro b2 _ hI
  refine bp 1 1 (ro (go_seq ?_))
  refine go_seq_join (o := r) (fun b9 f w => ∃ (j : Nat → Value), f = updL j [(1, vP b2 0), (19, vB b9)] ∧ Inv M w [.blk b2 24 [vI a0.N, vS A0z0 a0.Edges.length c0z0]]) (fun b9 => graph_Check.j1 a0 b9) ?_ (fun hJ10 => ?_)
  · clear H hI
    rintro b9 _ _ ⟨_, rfl, hI⟩ H
    replace H := cond_some H
    rcases H with ⟨hc11, H⟩ | ⟨hc11, H⟩
    · refine gt hc11 (go_seq (rp 1 ?_))
      replace H := Option.some.inj H
      subst H
      exact gr Tryd.func18 ⟨rfl, hI.pn⟩
    · refine ge hc11 (go_skip (go_seq (rp 2 (go_seq (go_seq (rg [.p, .l 0 1, .p, .p] (gA (hI.grp 0 rfl)) (go_block ?_)))))))
      refine go_iter (graph_Check.s2 a0) (fun x165 f w => ∃ (j : Nat → Value), f = updL j [(3, .func (.func 34) #[] #[vP b2 0]), (22, vS A0z0 a0.Edges.length c0z0), (23, vI (a0.Edges.length : Int)), (24, vI x165)] ∧ Inv M w [.blk b2 24 [vI a0.N, vS A0z0 a0.Edges.length c0z0]]) H ⟨_, at_, hI⟩ ?_
      clear H hI
      rintro x165 _ _ o1 H ⟨_, rfl, hI⟩ hin1 hout1
      refine go_seq (rp 1 (go_seq ?_))
      replace H := cond_some H
      rcases H with ⟨hc167, H⟩ | ⟨hc167, H⟩
      · refine gt hc167 (go_skip (go_seq (go_block (go_seq (r_in ?_)))))
        replace H := must_some H
        obtain ⟨g204, H⟩ := H
        obtain ⟨b205, q206, rfl, _⟩ := rdS.fopen hr0z0 rfl g204
        refine bx 0 [.x, .l 0 0] (gA (hI.lies (rdS.flook hr0z0 rfl g204))) _ (bZ g204) (oe 2 rfl ?_)
        refine e_alloc 40 (.agg #[vI 0, vI 0, vI 0, vI 0]) [vI 0, vI 0, vI 0, vI 0] rfl (by kernel_rfl) rfl hI ?_
        clear hI
        intro b207 _ hI
        refine oe 3 rfl ?_
        refine e_store 40 _ _ 1 b207 40 [vI 0, vI 0, vI 0, vI 0] [vI ((idx a0.Edges x165).From), vI ((idx a0.Edges x165).To), vI ((idx a0.Edges x165).Kind), vI ((idx a0.Edges x165).Key)] 0 (.agg #[vI ((idx a0.Edges x165).From), vI ((idx a0.Edges x165).To), vI ((idx a0.Edges x165).Kind), vI ((idx a0.Edges x165).Key)]) rfl (by kernel_rfl) (by kernel_rfl) (by kernel_rfl) (by kernel_rfl) hI rfl (by kernel_rfl) (by kernel_rfl) ?_
        clear hI
        intro _ hI
        refine ro ?_
        refine go_seq_join (o := o1) (fun b218 f w => ∃ (j : Nat → Value), f = updL j [(3, .func (.func 34) #[] #[vP b2 0]), (22, vS (some ⟨b205, q206, none⟩) a0.Edges.length c0z0), (23, vI (a0.Edges.length : Int)), (24, vI x165), (56, vB b218)] ∧ Inv M w [.blk b2 24 [vI a0.N, vS (some ⟨b205, q206, none⟩) a0.Edges.length c0z0]]) (fun b218 => graph_Check.j3 x165 b218) ?_ (fun hJ219 => ?_)
        · clear H hI
          rintro b218 _ _ ⟨_, rfl, hI⟩ H
          replace H := cond_some H
          rcases H with ⟨hc220, H⟩ | ⟨hc220, H⟩
          · refine gt hc220 (go_seq (rp 1 ?_))
            replace H := out_some H
            obtain ⟨_, H, he1⟩ := H
            have he := (hout1 _ he1).symm
            subst he
            replace H := Option.some.inj H
            subst H
            exact gr Tryd.func18 ⟨rfl, hI.pn⟩
          · refine ge hc220 (go_skip (go_inBlock (rp 2 ?_)))
            exact hin1 _ (Option.some.inj H).symm _ _ ⟨_, at_, hI⟩
        · refine r_in (bg 0 [.p, .p, .l 0 0] (gA (hI.grp 1 rfl)) ?_)
          replace H := bind_some H
          obtain ⟨y221, hy222, H⟩ := H
          refine oe 3 rfl ?_
          refine e_callf _ _ _ 34 #[] #[vP b2 0] #[vI ((idx a0.Edges x165).From)] #[vI ((idx a0.Edges x165).From), vP b2 0] rfl (by kernel_rfl) (by kernel_rfl) (by kernel_rfl) (enter34 _) (graph_Check_1zcalls ((idx a0.Edges x165).From) b2 a0 (some ⟨b205, q206, none⟩) c0z0 (memOf _) _ (Inv.start _) (Grp.lies (hI.grp 0 rfl)) (hI.rd hr0z0) hl0z0 _ hy222) ?_
          rintro _ _ ⟨rfl, hI'⟩
          replace hI := hI.call0 hI'
          clear hI'
          refine ⟨_, rfl, ?_⟩
          replace H := cond_some H
          rcases H with ⟨hc223, H⟩ | ⟨hc223, H⟩
          · refine bx 4 [.p, .c true, .p, .p, .p, .p, .p, .p, .p, .p, .p, .p, .p, .p, .p, .p, .p, .p, .p, .p, .p, .p, .p, .p, .p] gO _ (bZ (bndEq hc223)) (ro ?_)
            exact hJ219 true _ _ ⟨_, at_, hI.pick [0] (by decide) rfl⟩ H
          · refine bx 4 [.p, .c false, .p, .p, .l 0 1] (gA (hI.grp 1 rfl)) _ (bZ (bndEq hc223)) ?_
            replace H := bind_some H
            obtain ⟨y224, hy225, H⟩ := H
            refine oe 9 rfl ?_
            refine e_callf _ _ _ 34 #[] #[vP b2 0] #[vI ((idx a0.Edges x165).To)] #[vI ((idx a0.Edges x165).To), vP b2 0] rfl (by kernel_rfl) (by kernel_rfl) (by kernel_rfl) (enter34 _) (graph_Check_1zcalls ((idx a0.Edges x165).To) b2 a0 (some ⟨b205, q206, none⟩) c0z0 (memOf _) _ (Inv.start _) (Grp.lies (hI.grp 0 rfl)) (hI.rd hr0z0) hl0z0 _ hy225) ?_
            rintro _ _ ⟨rfl, hI'⟩
            replace hI := hI.call0 hI'
            clear hI'
            refine ⟨_, rfl, ?_⟩
            replace H := cond_some H
            rcases H with ⟨hc226, H⟩ | ⟨hc226, H⟩
            · refine bx 10 [.p, .p, .c true, .p, .p, .p, .p, .p, .p, .p, .p, .p, .p, .p, .p, .p, .p, .p, .p] gO _ (bZ (bndEq hc226)) (ro ?_)
              exact hJ219 true _ _ ⟨_, at_, hI.pick [0] (by decide) rfl⟩ H
            · replace H := cond_some H
              rcases H with ⟨hc227, H⟩ | ⟨hc227, H⟩
              · refine bx 10 [.p, .p, .c false, .p, .l 0 2, .p, .p, .c true, .p, .p, .p, .p, .p, .p, .p, .p, .p, .p, .p] (gA (hI.grp 1 rfl)) _ (bC (bndEq hc226) (bZ (bndEq hc227))) (ro ?_)
                exact hJ219 true _ _ ⟨_, at_, hI.pick [0] (by decide) rfl⟩ H
              · replace H := cond_some H
                rcases H with ⟨hc228, H⟩ | ⟨hc228, H⟩
                · refine bx 10 [.p, .p, .c false, .p, .l 0 2, .p, .p, .c false, .p, .l 0 2, .p, .p, .c true, .p, .p, .p, .p, .p, .p] (gA (hI.grp 1 rfl)) _ (bC (bndEq hc226) (bC (bndEq hc227) (bZ (bndEq hc228)))) (ro ?_)
                  exact hJ219 true _ _ ⟨_, at_, hI.pick [0] (by decide) rfl⟩ H
                · refine bx 10 [.p, .p, .c false, .p, .l 0 2, .p, .p, .c false, .p, .l 0 2, .p, .p, .c false, .p, .l 0 2, .p] (gA (hI.grp 1 rfl)) _ (bC (bndEq hc226) (bC (bndEq hc227) (bZ (bndEq hc228)))) ?_
                  replace H := bind_some H
                  obtain ⟨y229, hy230, H⟩ := H
                  refine oe 26 rfl ?_
                  refine ec (enter35 _) (bits_OnesCount_calls (IntKind.wrap .u64 ((idx a0.Edges x165).Kind)) (memOf _) _ (Inv.start _) _ hy230) ?_
                  rintro _ _ ⟨rfl, hI'⟩
                  replace hI := hI.call0 hI'
                  clear hI'
                  refine ⟨_, rfl, ?_⟩
                  refine bp 27 2 (ro ?_)
                  exact hJ219 (y229 != 1) _ _ ⟨_, at_, hI.pick [0] (by decide) rfl⟩ H
      · refine ge hc167 ?_
        refine go_exit rfl ?_
        refine go_seq (rp 1 ?_)
        replace H := out_some H
        obtain ⟨_, H, he1⟩ := H
        have he := (hout1 _ he1).symm
        subst he
        replace H := Option.some.inj H
        subst H
        exact gr Tryd.func18 ⟨rfl, hI.pn⟩
  · refine r_in ?_
    replace H := cond_some H
    rcases H with ⟨hc231, H⟩ | ⟨hc231, H⟩
    · refine bx 0 [.p, .l 0 0, .p, .c true, .p, .p, .p, .p, .p, .p, .p, .p, .p, .p] (gA (hI.grp 0 rfl)) _ (bZ (bndEq hc231)) (ro ?_)
      exact hJ10 true _ _ ⟨_, at_, hI⟩ H
    · replace H := cond_some H
      rcases H with ⟨hc232, H⟩ | ⟨hc232, H⟩
      · refine bx 0 [.p, .l 0 0, .p, .c false, .p, .l 0 0, .p, .p, .c true, .p, .p, .p, .p, .p] (gA (hI.grp 0 rfl)) _ (bC (bndEq hc231) (bZ (bndEq hc232))) (ro ?_)
        exact hJ10 true _ _ ⟨_, at_, hI⟩ H
      · refine bx 0 [.p, .l 0 0, .p, .c false, .p, .l 0 0, .p, .p, .c false, .p, .l 0 1, .p, .p, .p] (gA (hI.grp 0 rfl)) _ (bC (bndEq hc231) (bZ (bndEq hc232))) (ro ?_)
        exact hJ10 (decide ((a0.Edges.length : Int) > 262144)) _ _ ⟨_, at_, hI⟩ H

/-! ### graph_rows -/
theorem enter32 (a : Array Value) : Sem.pureRun Tryd.prog (callFunc 32 a) = some (.enter 32 a) := by kernel_rfl
theorem graph_rows_calls (a0 : Graph) (A0z0 : Option Addr) (c0z0 : Nat) (a1 : Int) (M : Mem) (w : World) (hI : Inv M w []) (hr0z0 : rdS kEdge M.blk A0z0 a0.Edges) (hl0z0 : a0.Edges.length ≤ c0z0) (r : List Int) (H : graph_rows a0 a1 = some r) :
    Calls Tryd.prog 32 #[.agg #[vI a0.N, vS A0z0 a0.Edges.length c0z0], vI a1] w fun e w' => ∃ (A210 : Option Addr), ∃ (c211 : Nat), e = .returned (vS A210 r.length c211) ∧ Inv M w' [.row (tInt .u64) 54 A210 r.length c211 r] := by
  refine cg Tryd.func32 ?_
  intro cs
  unfold graph_rows at H
  refine go_seq (r_in (oe 0 rfl ?_))
  refine e_box 24 _ (.agg #[vI a0.N, vS A0z0 a0.Edges.length c0z0]) [vI a0.N, vS A0z0 a0.Edges.length c0z0] rfl (by kernel_rfl) rfl hI ?_
  clear hI
  intro b2 _ hI
  refine bp 1 1 (ro (go_seq (r_in (bg 0 [.p, .l 0 0] (gA (hI.grp 0 rfl)) ?_))))
  replace H := must_some H
  obtain ⟨g5, H⟩ := H
  refine oe 2 rfl ?_
  refine e_make (tInt .u64) (default : Int) 56 54 _ _ _ (.int .u64 0) a0.N rfl rfl rfl rfl rfl rfl (fun _ => rfl) (by kernel_rfl) (by kernel_rfl) g5 hI ?_
  clear hI
  intro b6 _ hI
  refine bp 3 1 (ro (go_seq (go_seq (rg [.p, .l 0 1, .p, .p] (gA (hI.grp 0 rfl)) (go_block ?_)))))
  refine go_is 5 (vS (some ⟨b6, 0, none⟩) a0.N.toNat a0.N.toNat) (vS (some ⟨b6, 0, none⟩) ((List.replicate a0.N.toNat (default : Int)).length) a0.N.toNat) (by kernel_rfl) (by first | rfl | simp only [List.length_set, List.length_replicate, List.length_nil]) ?_
  replace hI := hI.renum 1 rfl
  refine go_iter (graph_rows.s1 a0 a1) (fun (l168, x171) f w => ∃ (j : Nat → Value) (A169 : Option Addr) (c170 : Nat), f = updL j [(1, vI a1), (5, vS A169 l168.length c170), (12, vS A0z0 a0.Edges.length c0z0), (13, vI (a0.Edges.length : Int)), (14, vI x171)] ∧ Inv M w [.row (tInt .u64) 54 A169 l168.length c170 l168]) H ⟨_, (some ⟨b6, 0, none⟩), a0.N.toNat, at_, hI.pick [1] (by decide) rfl⟩ ?_
  clear H hI
  rintro ⟨l168, x171⟩ _ _ o1 H ⟨_, A169, c170, rfl, hI⟩ hin1 hout1
  refine go_seq (rp 1 (go_seq ?_))
  replace H := cond_some H
  rcases H with ⟨hc173, H⟩ | ⟨hc173, H⟩
  · refine gt hc173 (go_skip (go_seq ?_))
    refine go_block_join (o := o1) (fun l193 f w => ∃ (j : Nat → Value) (A194 : Option Addr) (c195 : Nat), f = updL j [(1, vI a1), (5, vS A194 l193.length c195), (12, vS A0z0 a0.Edges.length c0z0), (13, vI (a0.Edges.length : Int)), (14, vI x171)] ∧ Inv M w [.row (tInt .u64) 54 A194 l193.length c195 l193]) (fun l193 => graph_rows.j2 x171 l193) ?_ (fun hJ196 => ?_)
    · clear H hI
      rintro l193 _ _ ⟨_, A194, c195, rfl, hI⟩ H
      refine rp 2 ?_
      exact hin1 _ (Option.some.inj H).symm _ _ ⟨_, A194, c195, at_, hI⟩
    · refine go_seq (r_in ?_)
      replace H := must_some H
      obtain ⟨g201, H⟩ := H
      obtain ⟨b202, q203, rfl, _⟩ := rdS.fopen hr0z0 rfl g201
      refine bx 0 [.x, .l 0 0] (gA (hI.lies (rdS.flook hr0z0 rfl g201))) _ (bZ g201) (oe 2 rfl ?_)
      refine e_alloc 40 (.agg #[vI 0, vI 0, vI 0, vI 0]) [vI 0, vI 0, vI 0, vI 0] rfl (by kernel_rfl) rfl hI ?_
      clear hI
      intro b204 _ hI
      refine oe 3 rfl ?_
      refine e_store 40 _ _ 1 b204 40 [vI 0, vI 0, vI 0, vI 0] [vI ((idx a0.Edges x171).From), vI ((idx a0.Edges x171).To), vI ((idx a0.Edges x171).Kind), vI ((idx a0.Edges x171).Key)] 0 (.agg #[vI ((idx a0.Edges x171).From), vI ((idx a0.Edges x171).To), vI ((idx a0.Edges x171).Kind), vI ((idx a0.Edges x171).Key)]) rfl (by kernel_rfl) (by kernel_rfl) (by kernel_rfl) (by kernel_rfl) hI rfl (by kernel_rfl) (by kernel_rfl) ?_
      clear hI
      intro _ hI
      refine ro (go_seq (rg [.p, .l 0 2, .p, .p, .p] (gA (hI.grp 1 rfl)) ?_))
      replace H := cond_some H
      rcases H with ⟨hc205, H⟩ | ⟨hc205, H⟩
      · refine gt hc205 ?_
        replace H := must_some H
        obtain ⟨g206, H⟩ := H
        obtain ⟨b207, rfl⟩ := hI.rowAt 0 rfl g206
        replace H := must_some H
        obtain ⟨g208, H⟩ := H
        refine d_tail' 10 _ [(b204, 0, [vI ((idx a0.Edges x171).From), vI ((idx a0.Edges x171).To), vI ((idx a0.Edges x171).Kind), vI ((idx a0.Edges x171).Key)]), (b207, 0 + ((idx a0.Edges x171).From).toNat * 1, [.int .u64 (idx l168 ((idx a0.Edges x171).From))])] [.p, .p, .l 0 0, .x, .l 1 0, .p, .l 0 1, .x, .p, .x] [(23, vS (some ⟨b207, 0, none⟩) l168.length c170), (24, vP b204 0), (25, vI ((idx a0.Edges x171).From)), (26, .pointer (some ⟨b207, 0 + ((idx a0.Edges x171).From).toNat * 1, none⟩)), (27, .int .u64 (idx l168 ((idx a0.Edges x171).From))), (28, vP b204 1), (29, vI ((idx a0.Edges x171).To)), (30, .int .u64 (sShl .u64 1 ((idx a0.Edges x171).To))), (31, .int .u64 (bOr .u64 (idx l168 ((idx a0.Edges x171).From)) (sShl .u64 1 ((idx a0.Edges x171).To)))), (32, .pointer (some ⟨b207, 0 + ((idx a0.Edges x171).From).toNat * 1, none⟩))] [((idx a0.Edges x171).From, l168.length), ((idx a0.Edges x171).To, far), ((idx a0.Edges x171).From, l168.length)] (by kernel_rfl) (by kernel_rfl) rfl rfl ⟨(hI.grp 1 rfl), (rdS.flook (hI.row 0 rfl) (hI.rowlen 0 rfl) g206).ok, trivial⟩ ⟨g206, g208, g206, trivial⟩ (by kernel_rfl) (by kernel_rfl) (by kernel_rfl) (by kernel_rfl) hI ?_
        clear hI
        intro _ hI hsame
        refine e_put 54 _ _ 0 b207 54 l168.length c170 l168 (bOr .u64 (idx l168 ((idx a0.Edges x171).From)) (sShl .u64 1 ((idx a0.Edges x171).To))) ((idx a0.Edges x171).From) 0 (.int .u64 (bOr .u64 (idx l168 ((idx a0.Edges x171).From)) (sShl .u64 1 ((idx a0.Edges x171).To)))) rfl (by kernel_rfl) (by kernel_rfl) (by kernel_rfl) (by kernel_rfl) hI rfl (by simpa only [List.length_set, List.length_replicate] using g206) (by kernel_rfl) (by kernel_rfl) ?_
        clear hI
        intro _ hI
        refine go_inBlock ?_
        refine go_is 5 (vS (some ⟨b207, 0, none⟩) l168.length c170) (vS (some ⟨b207, 0, none⟩) ((l168.set ((idx a0.Edges x171).From).toNat (bOr .u64 (idx l168 ((idx a0.Edges x171).From)) (sShl .u64 1 ((idx a0.Edges x171).To)))).length) c170) (by kernel_rfl) (by first | rfl | simp only [List.length_set, List.length_replicate, List.length_nil]) ?_
        replace hI := hI.renum 0 rfl
        exact hJ196 (l168.set ((idx a0.Edges x171).From).toNat (bOr .u64 (idx l168 ((idx a0.Edges x171).From)) (sShl .u64 1 ((idx a0.Edges x171).To)))) _ _ ⟨_, (some ⟨b207, 0, none⟩), c170, at_, hI.pick [0] (by decide) rfl⟩ H
      · refine ge hc205 (go_skip (go_inBlock ?_))
        exact hJ196 l168 _ _ ⟨_, A169, c170, at_, hI.pick [0] (by decide) rfl⟩ H
  · refine ge hc173 ?_
    refine go_exit rfl ?_
    refine go_seq (rp 2 ?_)
    replace H := out_some H
    obtain ⟨_, H, he1⟩ := H
    have he := (hout1 _ he1).symm
    subst he
    replace H := Option.some.inj H
    subst H
    exact gr Tryd.func32 ⟨A169, c170, rfl, hI⟩

/-! ### bits.TrailingZeros64 -/
theorem enter36 (a : Array Value) : Sem.pureRun Tryd.prog (callFunc 36 a) = some (.enter 36 a) := by kernel_rfl
def theTab : List Int := [0, 1, 56, 2, 57, 49, 28, 3, 61, 58, 42, 50, 38, 29, 17, 4, 62, 47, 59, 36, 45, 43, 51, 22, 53, 39, 33, 30, 24, 18, 12, 5, 63, 55, 48, 27, 60, 41, 37, 16, 46, 35, 44, 21, 52, 32, 23, 11, 54, 26, 40, 15, 34, 20, 31, 10, 25, 14, 19, 9, 13, 8, 7, 6]
theorem theTab_at : ∀ j, j < Lib.deBruijn64tab.length → theTab[j]? = some ((Lib.deBruijn64tab.getD j 0 : Nat) : Int) := by decide
theorem tab_of {g : Nat} {w : World} (h : rdS (tInt .u8) (hp w) (some ⟨g, 0, none⟩) theTab) : Go.Proofs.TabAt g Lib.deBruijn64tab w := by
  intro j hj
  rcases h with h | ⟨b, o, e, h⟩
  · exact absurd h (by decide)
  · cases e
    obtain ⟨cs, hr, hc⟩ := h j _ (theTab_at j hj)
    have hr : cs = [.int .u8 ((Lib.deBruijn64tab.getD j 0 : Nat) : Int)] := hr
    subst hr
    have := hc 0 _ rfl
    rw [cell_hp]
    rw [show 0 + j * (tInt .u8).sz + 0 = j by show 0 + j * 1 + 0 = j; omega] at this
    exact this
def rho : Ren := ⟨fun _ => 36, fun x => bif Nat.beq x 22 then 54 else bif Nat.beq x 25 then 61 else bif Nat.beq x 54 then 75 else x, fun _ => 0⟩
theorem lays : Lays7.n29 Tryd.prog rho where
  mixed := by kernel_rfl
  f29 := by kernel_rfl
  t0 := by kernel_rfl
  a0 := fun w => by kernel_rfl
  z0 := fun w => by kernel_rfl
  v0 := fun w => by kernel_rfl
  i0 := by kernel_rfl
  t3 := by kernel_rfl
  a3 := fun w => by kernel_rfl
  z3 := fun w => by kernel_rfl
  v3 := fun w => by kernel_rfl
  i3 := by kernel_rfl
  t4 := by kernel_rfl
  a4 := fun w => by kernel_rfl
  z4 := fun w => by kernel_rfl
  v4 := fun w => by kernel_rfl
  i4 := by kernel_rfl
  t5 := by kernel_rfl
  a5 := fun w => by kernel_rfl
  z5 := fun w => by kernel_rfl
  v5 := fun w => by kernel_rfl
  i5 := by kernel_rfl
  t22 := by kernel_rfl
  a22 := fun w => by kernel_rfl
  z22 := fun w => by kernel_rfl
  v22 := fun w => by kernel_rfl
  i22 := by kernel_rfl
  t25 := by kernel_rfl
  a25 := fun w => by kernel_rfl
  z25 := fun w => by kernel_rfl
  v25 := fun w => by kernel_rfl
  i25 := by kernel_rfl
  t54 := by kernel_rfl
  a54 := fun w => by kernel_rfl
  z54 := fun w => by kernel_rfl
  g1 := by kernel_rfl

abbrev TabM (H : BM) : Prop := rdS (tInt .u8) H (some ⟨0, 0, none⟩) theTab
theorem bits_TrailingZeros64zcalls (a0 : Int) (M : Mem) (w : World) (hI : Inv M w []) (hT : TabM M.blk) (r : Int) (H : bits_TrailingZeros64 a0 = some r) :
    Calls Tryd.prog 36 #[.int .u64 a0] w fun e w' => e = .returned (vI r) ∧ Inv M w' [] := by
  obtain ⟨g, H⟩ := must_some H
  have h := Any7.bits_TrailingZeros64 lays a0.toNat (by omega) w (fun _ => tab_of (hI.rd hT))
  rw [Int.toNat_of_nonneg g.1] at h
  refine h.mono ?_
  rintro e w' ⟨rfl, rfl⟩
  cases H
  exact ⟨rfl, hI⟩

/-! ### graph_Order -/
theorem enter21 (a : Array Value) : Sem.pureRun Tryd.prog (callFunc 21 a) = some (.enter 21 a) := by kernel_rfl
theorem graph_Order_calls (a0 : Graph) (A0z0 : Option Addr) (c0z0 : Nat) (a1 : Int) (M : Mem) (w : World) (hI : Inv M w []) (hT : TabM M.blk) (hr0z0 : rdS kEdge M.blk A0z0 a0.Edges) (hl0z0 : a0.Edges.length ≤ c0z0) (r : List Int × Bool × Int) (H : graph_Order a0 a1 = some r) :
    Calls Tryd.prog 21 #[.agg #[vI a0.N, vS A0z0 a0.Edges.length c0z0], vI a1] w fun e w' => ∃ (A1633 : Option Addr), ∃ (c1634 : Nat), e = .returned (.tuple #[vS A1633 r.1.length c1634, vB r.2.1, vI r.2.2]) ∧ Inv M w' [.row (tInt .i64) 3 A1633 r.1.length c1634 r.1] := by
  refine cg Tryd.func21 ?_
  intro cs
  unfold graph_Order at H
  refine go_seq (r_in (oe 0 rfl ?_))
  refine e_box 24 _ (.agg #[vI a0.N, vS A0z0 a0.Edges.length c0z0]) [vI a0.N, vS A0z0 a0.Edges.length c0z0] rfl (by kernel_rfl) rfl hI ?_
  clear hI
  intro b2 _ hI
  refine bp 1 3 (ro (go_scope (go_seq (go_seq (r_in (bg 0 [.l 0 0] (gA (hI.grp 0 rfl)) ?_))))))
  replace H := bind_some H
  obtain ⟨y337, hy338, H⟩ := H
  refine oe 1 rfl ?_
  refine ec (enter18 _) (graph_Check_calls a0 A0z0 c0z0 (memOf _) _ (Inv.start _) (hI.rd hr0z0) hl0z0 _ hy338) ?_
  rintro _ _ ⟨rfl, hI'⟩
  replace hI := hI.call0 hI'
  clear hI'
  refine ⟨_, rfl, ?_⟩
  refine bp 2 1 (ro (go_seq (rp 2 ?_)))
  replace H := cond_some H
  rcases H with ⟨hc339, H⟩ | ⟨hc339, H⟩
  · refine gt hc339 (go_seq (rp 4 ?_))
    replace H := Option.some.inj H
    subst H
    exact gr Tryd.func21 ⟨none, 0, rfl, (hI.nilrow (tInt .i64) 3).pick [1] (by decide) rfl⟩
  · refine ge hc339 (go_skip (go_seq (r_in (bg 0 [.p, .l 0 0] (gA (hI.grp 0 rfl)) ?_))))
    replace H := must_some H
    obtain ⟨g342, H⟩ := H
    refine oe 2 rfl ?_
    refine e_make (tInt .u64) (default : Int) 56 54 _ _ _ (.int .u64 0) a0.N rfl rfl rfl rfl rfl rfl (fun _ => rfl) (by kernel_rfl) (by kernel_rfl) g342 hI ?_
    clear hI
    intro b343 _ hI
    refine bp 3 1 (ro (go_seq (go_seq (r_in (bg 0 [.l 0 0, .p] (gA (hI.grp 0 rfl)) ?_)))))
    replace H := bind_some H
    obtain ⟨y510, hy511, H⟩ := H
    refine o_is 8 (vS (some ⟨b343, 0, none⟩) a0.N.toNat a0.N.toNat) (vS (some ⟨b343, 0, none⟩) ((List.replicate a0.N.toNat (default : Int)).length) a0.N.toNat) (by kernel_rfl) (by first | rfl | simp only [List.length_set, List.length_replicate, List.length_nil]) ?_
    refine o_is 22 (vS (some ⟨b343, 0, none⟩) a0.N.toNat a0.N.toNat) (vS (some ⟨b343, 0, none⟩) ((List.replicate a0.N.toNat (default : Int)).length) a0.N.toNat) (by kernel_rfl) (by first | rfl | simp only [List.length_set, List.length_replicate, List.length_nil]) ?_
    replace hI := hI.renum 1 rfl
    refine oe 2 rfl ?_
    refine ec (enter32 _) (graph_rows_calls a0 A0z0 c0z0 a1 (memOf _) _ (Inv.start _) (hI.rd hr0z0) hl0z0 _ hy511) ?_
    rintro _ _ ⟨A512, c513, rfl, hI'⟩
    replace hI := hI.call0 hI'
    clear hI'
    refine ⟨_, rfl, ?_⟩
    refine bp 3 2 (ro (go_block ?_))
    refine go_iter (graph_Order.s1 a0 y510) (fun (l781, x784) f w => ∃ (j : Nat → Value) (A782 : Option Addr) (c783 : Nat), f = updL j [(2, vP b2 0), (8, vS A782 l781.length c783), (25, vS A512 y510.length c513), (26, vI (y510.length : Int)), (27, vI x784)] ∧ Inv M w [.blk b2 24 [vI a0.N, vS A0z0 a0.Edges.length c0z0], .row (tInt .u64) 54 A782 l781.length c783 l781, .row (tInt .u64) 54 A512 y510.length c513 y510]) H ⟨_, (some ⟨b343, 0, none⟩), a0.N.toNat, at_, hI⟩ ?_
    clear H hI
    rintro ⟨l781, x784⟩ _ _ o1 H ⟨_, A782, c783, rfl, hI⟩ hin1 hout1
    refine go_seq (rp 1 (go_seq ?_))
    replace H := cond_some H
    rcases H with ⟨hc786, H⟩ | ⟨hc786, H⟩
    · refine gt hc786 (go_skip (go_seq (go_block (go_seq (r_in ?_)))))
      replace H := must_some H
      obtain ⟨g877, H⟩ := H
      obtain ⟨b878, rfl⟩ := hI.rowAt 2 rfl g877
      refine bx 0 [.p, .x, .l 0 0, .p, .p] (gA ((rdS.flook (hI.row 2 rfl) (hI.rowlen 2 rfl) g877).ok)) _ (bZ g877) (ro (go_block ?_))
      refine go_iter (graph_Order.s2 x784) (fun (l953, x956) f w => ∃ (j : Nat → Value) (A954 : Option Addr) (c955 : Nat), f = updL j [(2, vP b2 0), (8, vS A954 l953.length c955), (9, vI x784), (10, .int .u64 x956), (25, vS (some ⟨b878, 0, none⟩) y510.length c513), (26, vI (y510.length : Int)), (27, vI x784)] ∧ Inv M w [.blk b2 24 [vI a0.N, vS A0z0 a0.Edges.length c0z0], .row (tInt .u64) 54 A954 l953.length c955 l953, .row (tInt .u64) 54 (some ⟨b878, 0, none⟩) y510.length c513 y510]) H ⟨_, A782, c783, at_, hI⟩ ?_
      clear H hI
      rintro ⟨l953, x956⟩ _ _ o2 H ⟨_, A954, c955, rfl, hI⟩ hin2 hout2
      refine go_seq (go_seq (rp 2 ?_))
      replace H := cond_some H
      rcases H with ⟨hc958, H⟩ | ⟨hc958, H⟩
      · refine gt hc958 (go_skip (go_seq (go_block ?_)))
        replace H := bind_some H
        obtain ⟨y969, hy970, H⟩ := H
        replace H := must_some H
        obtain ⟨g971, H⟩ := H
        obtain ⟨b972, rfl⟩ := hI.rowAt 1 rfl g971
        replace H := must_some H
        obtain ⟨g973, H⟩ := H
        refine go_held (fun w => Inv M w [.blk b2 24 [vI a0.N, vS A0z0 a0.Edges.length c0z0], .row (tInt .u64) 54 (some ⟨b878, 0, none⟩) y510.length c513 y510]) (by kernel_rfl) ?_
        replace hI := hI.drew'
        refine hx (n := 6) [(0, .p), (1, .p), (5, .p), (6, .x)] (fun _ hS => gO) (hI.pk [0, 2]) _ (bZ g973) ?_
        refine ho (n := 5) 2 rfl (ec (enter36 _) (bits_TrailingZeros64zcalls x956 (memOf _) _ (Inv.start _) (hI.rd hT) _ hy970) ?_)
        rintro _ _ ⟨rfl, hI'⟩
        replace hI := hI.call0 hI'
        clear hI'
        refine ⟨_, rfl, ?_⟩
        refine ⟨(hI.pk [0, 2]), ?_⟩
        refine hx (n := 4) [(3, .x)] (fun _ hS => gO) (hI.pk [0, 2]) _ (bZ g971) ?_
        refine ho (n := 3) 4 rfl (e_read (ops := #[]) [(b972, 0 + y969.toNat * 1, [.int .u64 (idx l953 y969)])] (.l 0 0) (.int .u64 (idx l953 y969)) [] ⟨(rdS.flook (hI.row 1 rfl) (hI.rowlen 1 rfl) g971).ok, trivial⟩ trivial (by kernel_rfl) (by kernel_rfl) (by kernel_rfl) ⟨(hI.pk [0, 2]), ?_⟩)
        refine hx (n := 1) [(7, .p), (8, .x)] (fun _ hS => gO) (hI.pk [0, 2]) _ (bZ g971) ?_
        refine ho (n := 0) 9 rfl (e_put 54 _ _ 1 b972 54 l953.length c955 l953 (bOr .u64 (idx l953 y969) (sShl .u64 1 x784)) y969 0 (.int .u64 (bOr .u64 (idx l953 y969) (sShl .u64 1 x784))) rfl (by kernel_rfl) (by kernel_rfl) (by kernel_rfl) (by kernel_rfl) hI rfl g971 (by kernel_rfl) (by kernel_rfl) ?_)
        clear hI
        intro _ hI
        refine ⟨(hI.pk [0, 2]), ?_⟩
        refine hd (go_inBlock (rp 5 ?_))
        refine go_is 8 (vS (some ⟨b972, 0, none⟩) l953.length c955) (vS (some ⟨b972, 0, none⟩) ((l953.set y969.toNat (bOr .u64 (idx l953 y969) (sShl .u64 1 x784))).length) c955) (by kernel_rfl) (by first | rfl | simp only [List.length_set, List.length_replicate, List.length_nil]) ?_
        replace hI := hI.renum 1 rfl
        exact hin2 _ (Option.some.inj H).symm _ _ ⟨_, (some ⟨b972, 0, none⟩), c955, at_, hI⟩
      · refine ge hc958 ?_
        refine go_exit rfl ?_
        refine go_inBlock (rp 2 ?_)
        replace H := out_some H
        obtain ⟨_, H, he2⟩ := H
        have he := (hout2 _ he2).symm
        subst he
        exact hin1 _ (Option.some.inj H).symm _ _ ⟨_, A954, c955, at_, hI⟩
    · refine ge hc786 ?_
      refine go_exit rfl ?_
      refine go_seq (rp 1 (go_seq (rp 1 (go_seq ?_))))
      refine go_label ?_
      refine go_seq (go_block ?_)
      refine go_iter (graph_Order.s3 a0 l781) (fun (l1410, x1413) f w => ∃ (j : Nat → Value) (A1411 : Option Addr) (c1412 : Nat), f = updL j [(2, vP b2 0), (8, vS A782 l781.length c783), (11, vS A1411 l1410.length c1412), (12, .int .u64 x1413)] ∧ Inv M w [.blk b2 24 [vI a0.N, vS A0z0 a0.Edges.length c0z0], .row (tInt .u64) 54 A782 l781.length c783 l781, .row (tInt .i64) 3 A1411 l1410.length c1412 l1410]) H ⟨_, none, 0, at_, (hI.nilrow (tInt .i64) 3).pick [0, 1, 3] (by decide) rfl⟩ ?_
      clear H hI
      rintro ⟨l1410, x1413⟩ _ _ o2 H ⟨_, A1411, c1412, rfl, hI⟩ hin2 hout2
      refine go_seq (go_seq (rg [.p, .p, .p, .l 0 0, .p] (gA (hI.grp 0 rfl)) ?_))
      replace H := cond_some H
      rcases H with ⟨hc1415, H⟩ | ⟨hc1415, H⟩
      · refine gt hc1415 (go_skip (go_block (go_seq (go_seq (rp 3 (go_block ?_))))))
        refine go_iter (graph_Order.s4 l781 l1410 x1413) (fun x1582 f w => ∃ (j : Nat → Value), f = updL j [(2, vP b2 0), (8, vS A782 l781.length c783), (11, vS A1411 l1410.length c1412), (12, .int .u64 x1413), (53, vS A782 l781.length c783), (54, vI (l781.length : Int)), (55, vI x1582)] ∧ Inv M w [.blk b2 24 [vI a0.N, vS A0z0 a0.Edges.length c0z0], .row (tInt .u64) 54 A782 l781.length c783 l781, .row (tInt .i64) 3 A1411 l1410.length c1412 l1410]) H ⟨_, at_, hI⟩ ?_
        clear H hI
        rintro x1582 _ _ o3 H ⟨_, rfl, hI⟩ hin3 hout3
        refine go_seq (rp 1 (go_seq ?_))
        replace H := cond_some H
        rcases H with ⟨hc1584, H⟩ | ⟨hc1584, H⟩
        · refine gt hc1584 (go_skip (go_seq (go_block (go_seq (r_in ?_)))))
          replace H := must_some H
          obtain ⟨g1611, H⟩ := H
          obtain ⟨b1612, rfl⟩ := hI.rowAt 1 rfl g1611
          refine bx 0 [.p, .x, .l 0 0, .p, .p] (gA ((rdS.flook (hI.row 1 rfl) (hI.rowlen 1 rfl) g1611).ok)) _ (bZ g1611) (ro ?_)
          refine go_seq_join (o := o3) (fun b1615 f w => ∃ (j : Nat → Value), f = updL j [(2, vP b2 0), (8, vS (some ⟨b1612, 0, none⟩) l781.length c783), (11, vS A1411 l1410.length c1412), (12, .int .u64 x1413), (13, vI x1582), (53, vS (some ⟨b1612, 0, none⟩) l781.length c783), (54, vI (l781.length : Int)), (55, vI x1582), (70, vB b1615)] ∧ Inv M w [.blk b2 24 [vI a0.N, vS A0z0 a0.Edges.length c0z0], .row (tInt .u64) 54 (some ⟨b1612, 0, none⟩) l781.length c783 l781, .row (tInt .i64) 3 A1411 l1410.length c1412 l1410]) (fun b1615 => graph_Order.j5 l1410 x1413 x1582 b1615) ?_ (fun hJ1616 => ?_)
          · clear H hI
            rintro b1615 _ _ ⟨_, rfl, hI⟩ H
            replace H := cond_some H
            rcases H with ⟨hc1617, H⟩ | ⟨hc1617, H⟩
            · refine gt hc1617 (go_seq (r_in ?_))
              replace H := must_some H
              obtain ⟨g1619, H⟩ := H
              refine bx 0 [.p, .p, .x, .p, .p] gO _ (bZ g1619) (ro (go_seq (r_in (bp 0 2 (oe 2 rfl ?_)))))
              refine e_partsS 43 3 1 _ _ _ #[vI x1582] [vI x1582] rfl rfl rfl rfl (by kernel_rfl) (by kernel_rfl) (by kernel_rfl) (by kernel_rfl) hI ?_
              clear hI
              intro b1625 _ hs1626 hI
              replace H := must_some H
              obtain ⟨g1627, H⟩ := H
              refine oe 3 rfl ?_
              refine e_append (tInt .i64) 43 0 3 _ _ _ _ A1411 l1410.length c1412 l1410 ([x1582] : List Int) b1625 0 1 1 [vI x1582] 2 [] [0, 1, 3] [] [.blk b2 24 [vI a0.N, vS A0z0 a0.Edges.length c0z0], .row (tInt .u64) 54 (some ⟨b1612, 0, none⟩) l781.length c783 l781, .blk b1625 3 [vI x1582]] rfl (by kernel_rfl) (by kernel_rfl) rfl rfl rfl rfl rfl (by kernel_rfl) hI (by decide) rfl rfl rfl (hI.grp 3 rfl) g1627 (mks_cons (mk_flat (k := (tInt .i64)) x1582 [vI x1582] rfl) mks_nil) ?_
              clear hI
              intro A1628 c1629 _ hI
              replace hI := hI.pick (L' := [.row (tInt .i64) 3 A1628 ((l1410 ++ ([x1582] : List Int)).length) c1629 (l1410 ++ ([x1582] : List Int)), .blk b2 24 [vI a0.N, vS A0z0 a0.Edges.length c0z0], .row (tInt .u64) 54 (some ⟨b1612, 0, none⟩) l781.length c783 l781]) [0, 1, 2] (by decide) rfl
              refine bp 4 1 (ro ?_)
              refine go_exit rfl ?_
              replace H := out_some H
              obtain ⟨_, H, he3⟩ := H
              have he := (hout3 _ he3).symm
              subst he
              exact hin2 _ (Option.some.inj H).symm _ _ ⟨_, A1628, c1629, at_, hI.pick [1, 2, 0] (by decide) rfl⟩
            · refine ge hc1617 (go_skip (go_inBlock (rp 2 ?_)))
              exact hin3 _ (Option.some.inj H).symm _ _ ⟨_, at_, hI⟩
          · refine r_in ?_
            replace H := must_some H
            obtain ⟨g1630, H⟩ := H
            replace H := cond_some H
            rcases H with ⟨hc1631, H⟩ | ⟨hc1631, H⟩
            · refine bx 0 [.p, .p, .x, .p, .p, .c true, .p, .p, .p, .p, .p] gO _ (bC g1630 (bZ (bndEq hc1631))) (ro ?_)
              exact hJ1616 (bAndNot .u64 (idx l781 x1582) x1413 == 0) _ _ ⟨_, at_, hI⟩ H
            · refine bx 0 [.p, .p, .x, .p, .p, .c false, .p, .p, .p, .p, .p] gO _ (bC g1630 (bZ (bndEq hc1631))) (ro ?_)
              exact hJ1616 false _ _ ⟨_, at_, hI⟩ H
        · refine ge hc1584 ?_
          refine go_exit rfl ?_
          refine go_seq (rp 3 ?_)
          replace H := out_some H
          obtain ⟨_, H, he3⟩ := H
          have he := (hout3 _ he3).symm
          subst he
          replace H := out_some H
          obtain ⟨_, H, he2⟩ := H
          have he := (hout2 _ he2).symm
          subst he
          replace H := out_some H
          obtain ⟨_, H, he1⟩ := H
          have he := (hout1 _ he1).symm
          subst he
          replace H := Option.some.inj H
          subst H
          exact gr Tryd.func21 ⟨none, 0, rfl, (hI.nilrow (tInt .i64) 3).pick [3] (by decide) rfl⟩
      · refine ge hc1415 ?_
        refine go_exit rfl ?_
        refine go_seq (rp 4 ?_)
        replace H := out_some H
        obtain ⟨_, H, he2⟩ := H
        have he := (hout2 _ he2).symm
        subst he
        replace H := out_some H
        obtain ⟨_, H, he1⟩ := H
        have he := (hout1 _ he1).symm
        subst he
        replace H := Option.some.inj H
        subst H
        exact gr Tryd.func21 ⟨A1411, c1412, rfl, hI.pick [2] (by decide) rfl⟩

/-! ### ring_Fits -/
theorem enter28 (a : Array Value) : Sem.pureRun Tryd.prog (callFunc 28 a) = some (.enter 28 a) := by kernel_rfl
theorem ring_Fits_calls (a0 : Graph) (A0z0 : Option Addr) (c0z0 : Nat) (A1z : Option Addr) (c1z : Nat) (a1 : List Edge) (a2 : Int) (a3 : Int) (a4 : Int) (M : Mem) (w : World) (hI : Inv M w []) (hr0z0 : rdS kEdge M.blk A0z0 a0.Edges) (hl0z0 : a0.Edges.length ≤ c0z0) (hr1z : rdS kEdge M.blk A1z a1) (hl1z : a1.length ≤ c1z) (r : Bool) (H : ring_Fits a0 a1 a2 a3 a4 = some r) :
    Calls Tryd.prog 28 #[.agg #[vI a0.N, vS A0z0 a0.Edges.length c0z0], vS A1z a1.length c1z, vI a2, vI a3, vI a4] w fun e w' => e = .returned (vB r) ∧ Inv M w' [] := by
  refine cg Tryd.func28 ?_
  intro cs
  unfold ring_Fits at H
  refine go_seq (r_in (oe 0 rfl ?_))
  refine e_box 24 _ (.agg #[vI a0.N, vS A0z0 a0.Edges.length c0z0]) [vI a0.N, vS A0z0 a0.Edges.length c0z0] rfl (by kernel_rfl) rfl hI ?_
  clear hI
  intro b2 _ hI
  refine bp 1 1 (ro (go_seq ?_))
  refine go_seq_join (o := r) (fun b11 f w => ∃ (j : Nat → Value), f = updL j [(1, vS A1z a1.length c1z), (2, vI a2), (3, vI a3), (4, vI a4), (5, vP b2 0), (29, vB b11)] ∧ Inv M w [.blk b2 24 [vI a0.N, vS A0z0 a0.Edges.length c0z0]]) (fun b11 => ring_Fits.j1 a0 a1 a2 a3 a4 b11) ?_ (fun hJ12 => ?_)
  · clear H hI
    rintro b11 _ _ ⟨_, rfl, hI⟩ H
    replace H := cond_some H
    rcases H with ⟨hc13, H⟩ | ⟨hc13, H⟩
    · refine gt hc13 (go_seq (rp 1 ?_))
      replace H := Option.some.inj H
      subst H
      exact gr Tryd.func28 ⟨rfl, hI.pn⟩
    · refine ge hc13 (go_skip (go_seq (r_in (oe 0 rfl ?_))))
      refine e_makemap Edge Unit (fun x : Edge => .agg #[vI x.From, vI x.To, vI x.Kind, vI x.Key]) (fun _ : Unit => .agg #[]) 69 rfl hI ?_
      clear hI
      intro b15 _ hI
      refine bp 1 1 (ro (go_seq (go_seq (rg [.p, .l 0 1, .p, .p] (gA (hI.grp 0 rfl)) (go_block ?_)))))
      refine go_iter (ring_Fits.s2 a0 a1 a2 a3 a4) (fun (m90, x91) f w => ∃ (j : Nat → Value), f = updL j [(1, vS A1z a1.length c1z), (2, vI a2), (3, vI a3), (4, vI a4), (11, .map (some b15)), (32, vS A0z0 a0.Edges.length c0z0), (33, vI (a0.Edges.length : Int)), (34, vI x91)] ∧ Inv M w [mapA (fun x : Edge => .agg #[vI x.From, vI x.To, vI x.Kind, vI x.Key]) (fun _ : Unit => .agg #[]) b15 m90]) H ⟨_, at_, hI.pick [1] (by decide) rfl⟩ ?_
      clear H hI
      rintro ⟨m90, x91⟩ _ _ o1 H ⟨_, rfl, hI⟩ hin1 hout1
      refine go_seq (rp 1 (go_seq ?_))
      replace H := cond_some H
      rcases H with ⟨hc93, H⟩ | ⟨hc93, H⟩
      · refine gt hc93 (go_skip (go_seq (go_block (go_seq (r_in ?_)))))
        replace H := must_some H
        obtain ⟨g106, H⟩ := H
        obtain ⟨b107, q108, rfl, _⟩ := rdS.fopen hr0z0 rfl g106
        refine bx 0 [.x, .l 0 0] (gA (hI.lies (rdS.flook hr0z0 rfl g106))) _ (bZ g106) (oe 2 rfl ?_)
        refine e_alloc 40 (.agg #[vI 0, vI 0, vI 0, vI 0]) [vI 0, vI 0, vI 0, vI 0] rfl (by kernel_rfl) rfl hI ?_
        clear hI
        intro b109 _ hI
        refine oe 3 rfl ?_
        refine e_store 40 _ _ 1 b109 40 [vI 0, vI 0, vI 0, vI 0] [vI ((idx a0.Edges x91).From), vI ((idx a0.Edges x91).To), vI ((idx a0.Edges x91).Kind), vI ((idx a0.Edges x91).Key)] 0 (.agg #[vI ((idx a0.Edges x91).From), vI ((idx a0.Edges x91).To), vI ((idx a0.Edges x91).Kind), vI ((idx a0.Edges x91).Key)]) rfl (by kernel_rfl) (by kernel_rfl) (by kernel_rfl) (by kernel_rfl) hI rfl (by kernel_rfl) (by kernel_rfl) ?_
        clear hI
        intro _ hI
        refine ro (r_in (bg 0 [.p, .l 0 0, .p] (gA (hI.grp 1 rfl)) (oe 3 rfl ?_)))
        refine e_mapput (ek := (fun x : Edge => .agg #[vI x.From, vI x.To, vI x.Kind, vI x.Key])) (ev := (fun _ : Unit => .agg #[])) 69 40 70 _ _ _ 0 b15 m90 (idx a0.Edges x91) () rfl (by kernel_rfl) keyEdge (by kernel_rfl) (by kernel_rfl) (by kernel_rfl) hI rfl ?_
        clear hI
        intro _ hI
        refine ro (go_inBlock (rp 2 ?_))
        exact hin1 _ (Option.some.inj H).symm _ _ ⟨_, at_, hI.pick [0] (by decide) rfl⟩
      · refine ge hc93 ?_
        refine go_exit rfl ?_
        refine go_seq (r_in (oe 0 rfl ?_))
        refine e_makemap Int Unit (fun x : Int => vI x) (fun _ : Unit => .agg #[]) 71 rfl hI ?_
        clear hI
        intro b111 _ hI
        refine bp 1 1 (ro (go_seq (go_seq (rp 3 (go_block ?_)))))
        refine go_iter (ring_Fits.s3 a1 a2 a3 a4 m90) (fun (m354, x355) f w => ∃ (j : Nat → Value), f = updL j [(1, vS A1z a1.length c1z), (2, vI a2), (3, vI a3), (4, vI a4), (11, .map (some b15)), (14, .map (some b111)), (43, vS A1z a1.length c1z), (44, vI (a1.length : Int)), (45, vI x355)] ∧ Inv M w [mapA (fun x : Edge => .agg #[vI x.From, vI x.To, vI x.Kind, vI x.Key]) (fun _ : Unit => .agg #[]) b15 m90, mapA (fun x : Int => vI x) (fun _ : Unit => .agg #[]) b111 m354]) H ⟨_, at_, hI⟩ ?_
        clear H hI
        rintro ⟨m354, x355⟩ _ _ o2 H ⟨_, rfl, hI⟩ hin2 hout2
        refine go_seq (rp 1 (go_seq ?_))
        replace H := cond_some H
        rcases H with ⟨hc357, H⟩ | ⟨hc357, H⟩
        · refine gt hc357 (go_skip (go_seq (go_block (go_seq (r_in ?_)))))
          replace H := must_some H
          obtain ⟨g412, H⟩ := H
          obtain ⟨b413, q414, rfl, _⟩ := rdS.fopen hr1z rfl g412
          refine bx 0 [.p, .x, .l 0 0] (gA (hI.lies (rdS.flook hr1z rfl g412))) _ (bZ g412) (oe 3 rfl ?_)
          refine e_alloc 40 (.agg #[vI 0, vI 0, vI 0, vI 0]) [vI 0, vI 0, vI 0, vI 0] rfl (by kernel_rfl) rfl hI ?_
          clear hI
          intro b415 _ hI
          refine bp 4 1 (oe 5 rfl ?_)
          refine e_store 40 _ _ 2 b415 40 [vI 0, vI 0, vI 0, vI 0] [vI ((idx a1 x355).From), vI ((idx a1 x355).To), vI ((idx a1 x355).Kind), vI ((idx a1 x355).Key)] 0 (.agg #[vI ((idx a1 x355).From), vI ((idx a1 x355).To), vI ((idx a1 x355).Kind), vI ((idx a1 x355).Key)]) rfl (by kernel_rfl) (by kernel_rfl) (by kernel_rfl) (by kernel_rfl) hI rfl (by kernel_rfl) (by kernel_rfl) ?_
          clear hI
          intro _ hI
          refine ro (go_seq (r_in ?_))
          replace H := must_some H
          obtain ⟨g419, H⟩ := H
          replace H := must_some H
          obtain ⟨g420, H⟩ := H
          refine bx 0 [.p, .p, .p, .p, .p, .x, .x, .l 0 0] (gA (hI.lies (rdS.flook hr1z rfl g420))) _ (bC (ndEq g419) (bZ g420)) (oe 8 rfl ?_)
          refine e_alloc 40 (.agg #[vI 0, vI 0, vI 0, vI 0]) [vI 0, vI 0, vI 0, vI 0] rfl (by kernel_rfl) rfl hI ?_
          clear hI
          intro b421 _ hI
          refine oe 9 rfl ?_
          refine e_store 40 _ _ 3 b421 40 [vI 0, vI 0, vI 0, vI 0] [vI ((idx a1 ((w64 (x355 + 1)).tmod (a1.length : Int))).From), vI ((idx a1 ((w64 (x355 + 1)).tmod (a1.length : Int))).To), vI ((idx a1 ((w64 (x355 + 1)).tmod (a1.length : Int))).Kind), vI ((idx a1 ((w64 (x355 + 1)).tmod (a1.length : Int))).Key)] 0 (.agg #[vI ((idx a1 ((w64 (x355 + 1)).tmod (a1.length : Int))).From), vI ((idx a1 ((w64 (x355 + 1)).tmod (a1.length : Int))).To), vI ((idx a1 ((w64 (x355 + 1)).tmod (a1.length : Int))).Kind), vI ((idx a1 ((w64 (x355 + 1)).tmod (a1.length : Int))).Key)]) rfl (by kernel_rfl) (by kernel_rfl) (by kernel_rfl) (by kernel_rfl) hI rfl (by kernel_rfl) (by kernel_rfl) ?_
          clear hI
          intro _ hI
          refine ro (go_seq (go_seq (r_in (bg 0 [.p, .l 0 0] (gA (hI.grp 2 rfl)) (oe 2 rfl ?_)))))
          refine e_lookup (ek := (fun x : Edge => .agg #[vI x.From, vI x.To, vI x.Kind, vI x.Key])) (ev := (fun _ : Unit => .agg #[])) 69 40 70 _ _ true b15 m90 (idx a1 x355) rfl (by kernel_rfl) keyEdge (fun _ => by kernel_rfl) (by kernel_rfl) (by kernel_rfl) (hI.mapAt 0 rfl) ?_
          refine bp 3 3 (oe 6 rfl ?_)
          refine e_alloc 70 (.agg #[]) [] rfl (by kernel_rfl) rfl hI ?_
          clear hI
          intro b427 _ hI
          refine oe 7 rfl ?_
          refine e_store 70 _ _ 4 b427 70 [] [] 0 (.agg #[]) rfl (by kernel_rfl) (by kernel_rfl) (by kernel_rfl) (by kernel_rfl) hI rfl (by kernel_rfl) (by kernel_rfl) ?_
          clear hI
          intro _ hI
          refine bp 8 1 (ro ?_)
          refine go_seq_join (o := o2) (fun b429 f w => ∃ (j : Nat → Value), f = updL j [(1, vS (some ⟨b413, q414, none⟩) a1.length c1z), (2, vI a2), (3, vI a3), (4, vI a4), (11, .map (some b15)), (14, .map (some b111)), (15, vI x355), (16, vP b415 0), (17, vP b421 0), (43, vS (some ⟨b413, q414, none⟩) a1.length c1z), (44, vI (a1.length : Int)), (45, vI x355), (72, vB b429)] ∧ Inv M w [mapA (fun x : Edge => .agg #[vI x.From, vI x.To, vI x.Kind, vI x.Key]) (fun _ : Unit => .agg #[]) b15 m90, mapA (fun x : Int => vI x) (fun _ : Unit => .agg #[]) b111 m354, .blk b415 40 [vI ((idx a1 x355).From), vI ((idx a1 x355).To), vI ((idx a1 x355).Kind), vI ((idx a1 x355).Key)], .blk b421 40 [vI ((idx a1 ((w64 (x355 + 1)).tmod (a1.length : Int))).From), vI ((idx a1 ((w64 (x355 + 1)).tmod (a1.length : Int))).To), vI ((idx a1 ((w64 (x355 + 1)).tmod (a1.length : Int))).Kind), vI ((idx a1 ((w64 (x355 + 1)).tmod (a1.length : Int))).Key)]]) (fun b429 => ring_Fits.j4 a1 a2 a3 a4 m354 x355 b429) ?_ (fun hJ430 => ?_)
          · clear H hI
            rintro b429 _ _ ⟨_, rfl, hI⟩ H
            replace H := cond_some H
            rcases H with ⟨hc431, H⟩ | ⟨hc431, H⟩
            · refine gt hc431 (go_seq (rp 1 ?_))
              replace H := out_some H
              obtain ⟨_, H, he2⟩ := H
              have he := (hout2 _ he2).symm
              subst he
              replace H := out_some H
              obtain ⟨_, H, he1⟩ := H
              have he := (hout1 _ he1).symm
              subst he
              replace H := Option.some.inj H
              subst H
              exact gr Tryd.func28 ⟨rfl, hI.pn⟩
            · refine ge hc431 (go_skip (go_seq (r_in (bg 0 [.p, .p, .l 0 0, .p] (gA (hI.grp 2 rfl)) (oe 4 rfl ?_)))))
              refine e_mapput (ek := (fun x : Int => vI x)) (ev := (fun _ : Unit => .agg #[])) 71 3 70 _ _ _ 1 b111 m354 ((idx a1 x355).From) () rfl (by kernel_rfl) (key_int (by kernel_rfl)) (by kernel_rfl) (by kernel_rfl) (by kernel_rfl) hI rfl ?_
              clear hI
              intro _ hI
              refine ro (go_seq ?_)
              refine dg [.p, .l 0 2, .p, .p, .p, .p, .l 0 2, .p, .p, .p, .p, .p] (gA (hI.grp 2 rfl)) hI ?_
              clear hI
              intro _ hI
              refine go_seq (rp 1 ?_)
              refine go_block_join (o := o2) (fun (_ : Unit) f w => ∃ (j : Nat → Value), f = updL j [(1, vS (some ⟨b413, q414, none⟩) a1.length c1z), (2, vI a2), (3, vI a3), (4, vI a4), (11, .map (some b15)), (14, .map (some b111)), (43, vS (some ⟨b413, q414, none⟩) a1.length c1z), (44, vI (a1.length : Int)), (45, vI x355)] ∧ Inv M w [mapA (fun x : Edge => .agg #[vI x.From, vI x.To, vI x.Kind, vI x.Key]) (fun _ : Unit => .agg #[]) b15 m90, mapA (fun x : Int => vI x) (fun _ : Unit => .agg #[]) b111 (mput m354 ((idx a1 x355).From) ())]) (fun (_ : Unit) => ring_Fits.j5 a1 m354 x355) ?_ (fun hJ446 => ?_)
              · clear H hI
                rintro ⟨⟩ _ _ ⟨_, rfl, hI⟩ H
                refine go_inBlock (rp 2 ?_)
                exact hin2 _ (Option.some.inj H).symm _ _ ⟨_, at_, hI⟩
              · refine go_seq (rp 2 ?_)
                replace H := cond_some H
                rcases H with ⟨hc447, H⟩ | ⟨hc447, H⟩
                · refine gt hc447 (go_seq (rp 2 ?_))
                  replace H := cond_some H
                  rcases H with ⟨hc448, H⟩ | ⟨hc448, H⟩
                  · refine gt hc448 (go_seq (rp 1 ?_))
                    replace H := out_some H
                    obtain ⟨_, H, he2⟩ := H
                    have he := (hout2 _ he2).symm
                    subst he
                    replace H := out_some H
                    obtain ⟨_, H, he1⟩ := H
                    have he := (hout1 _ he1).symm
                    subst he
                    replace H := Option.some.inj H
                    subst H
                    exact gr Tryd.func28 ⟨rfl, hI.pn⟩
                  · refine ge hc448 (go_skip (go_inBlock ?_))
                    exact hJ446 () _ _ ⟨_, at_, hI.pick [0, 1] (by decide) rfl⟩ H
                · refine ge hc447 (go_seq (rp 2 ?_))
                  replace H := cond_some H
                  rcases H with ⟨hc449, H⟩ | ⟨hc449, H⟩
                  · refine gt hc449 ?_
                    refine go_seq_join (o := o2) (fun b454 f w => ∃ (j : Nat → Value), f = updL j [(1, vS (some ⟨b413, q414, none⟩) a1.length c1z), (2, vI a2), (3, vI a3), (4, vI a4), (11, .map (some b15)), (14, .map (some b111)), (43, vS (some ⟨b413, q414, none⟩) a1.length c1z), (44, vI (a1.length : Int)), (45, vI x355), (107, vB b454)] ∧ Inv M w [mapA (fun x : Edge => .agg #[vI x.From, vI x.To, vI x.Kind, vI x.Key]) (fun _ : Unit => .agg #[]) b15 m90, mapA (fun x : Int => vI x) (fun _ : Unit => .agg #[]) b111 (mput m354 ((idx a1 x355).From) ())]) (fun b454 => ring_Fits.j6 a1 m354 x355 b454) ?_ (fun hJ455 => ?_)
                    · clear H hI
                      rintro b454 _ _ ⟨_, rfl, hI⟩ H
                      replace H := cond_some H
                      rcases H with ⟨hc456, H⟩ | ⟨hc456, H⟩
                      · refine gt hc456 (go_seq (rp 1 ?_))
                        replace H := out_some H
                        obtain ⟨_, H, he2⟩ := H
                        have he := (hout2 _ he2).symm
                        subst he
                        replace H := out_some H
                        obtain ⟨_, H, he1⟩ := H
                        have he := (hout1 _ he1).symm
                        subst he
                        replace H := Option.some.inj H
                        subst H
                        exact gr Tryd.func28 ⟨rfl, hI.pn⟩
                      · refine ge hc456 (go_skip (go_inBlock ?_))
                        exact hJ446 () _ _ ⟨_, at_, hI⟩ H
                    · refine r_in ?_
                      replace H := cond_some H
                      rcases H with ⟨hc457, H⟩ | ⟨hc457, H⟩
                      · replace H := cond_some H
                        rcases H with ⟨hc458, H⟩ | ⟨hc458, H⟩
                        · refine bx 0 [.p, .p, .c true, .p, .p, .p, .c true, .p, .p, .p, .p, .p, .p, .p] gO _ (bC (bndEq hc457) (bZ (bndEq hc458))) (ro ?_)
                          exact hJ455 true _ _ ⟨_, at_, hI.pick [0, 1] (by decide) rfl⟩ H
                        · replace H := cond_some H
                          rcases H with ⟨hc459, H⟩ | ⟨hc459, H⟩
                          · refine bx 0 [.p, .p, .c true, .p, .p, .p, .c false, .p, .p, .c true, .p, .p, .p, .p] gO _ (bC (bndEq hc457) (bC (bndEq hc458) (bZ (bndEq hc459)))) (ro ?_)
                            exact hJ455 (!(bAnd .i64 ((idx a1 x355).Kind) a2 != 0)) _ _ ⟨_, at_, hI.pick [0, 1] (by decide) rfl⟩ H
                          · refine bx 0 [.p, .p, .c true, .p, .p, .p, .c false, .p, .p, .c false, .p, .p, .p, .p] gO _ (bC (bndEq hc457) (bC (bndEq hc458) (bZ (bndEq hc459)))) (ro ?_)
                            exact hJ455 false _ _ ⟨_, at_, hI.pick [0, 1] (by decide) rfl⟩ H
                      · replace H := cond_some H
                        rcases H with ⟨hc460, H⟩ | ⟨hc460, H⟩
                        · refine bx 0 [.p, .p, .c false, .p, .p, .p, .p, .p, .p, .c true, .p, .p, .p, .p] gO _ (bC (bndEq hc457) (bZ (bndEq hc460))) (ro ?_)
                          exact hJ455 (!(bAnd .i64 ((idx a1 x355).Kind) a2 != 0)) _ _ ⟨_, at_, hI.pick [0, 1] (by decide) rfl⟩ H
                        · refine bx 0 [.p, .p, .c false, .p, .p, .p, .p, .p, .p, .c false, .p, .p, .p, .p] gO _ (bC (bndEq hc457) (bZ (bndEq hc460))) (ro ?_)
                          exact hJ455 false _ _ ⟨_, at_, hI.pick [0, 1] (by decide) rfl⟩ H
                  · refine ge hc449 (go_seq (rp 2 ?_))
                    replace H := cond_some H
                    rcases H with ⟨hc461, H⟩ | ⟨hc461, H⟩
                    · refine gt hc461 ?_
                      refine go_seq_join (o := o2) (fun b464 f w => ∃ (j : Nat → Value), f = updL j [(1, vS (some ⟨b413, q414, none⟩) a1.length c1z), (2, vI a2), (3, vI a3), (4, vI a4), (11, .map (some b15)), (14, .map (some b111)), (43, vS (some ⟨b413, q414, none⟩) a1.length c1z), (44, vI (a1.length : Int)), (45, vI x355), (122, vB b464)] ∧ Inv M w [mapA (fun x : Edge => .agg #[vI x.From, vI x.To, vI x.Kind, vI x.Key]) (fun _ : Unit => .agg #[]) b15 m90, mapA (fun x : Int => vI x) (fun _ : Unit => .agg #[]) b111 (mput m354 ((idx a1 x355).From) ())]) (fun b464 => ring_Fits.j7 a1 m354 x355 b464) ?_ (fun hJ465 => ?_)
                      · clear H hI
                        rintro b464 _ _ ⟨_, rfl, hI⟩ H
                        replace H := cond_some H
                        rcases H with ⟨hc466, H⟩ | ⟨hc466, H⟩
                        · refine gt hc466 (go_seq (rp 1 ?_))
                          replace H := out_some H
                          obtain ⟨_, H, he2⟩ := H
                          have he := (hout2 _ he2).symm
                          subst he
                          replace H := out_some H
                          obtain ⟨_, H, he1⟩ := H
                          have he := (hout1 _ he1).symm
                          subst he
                          replace H := Option.some.inj H
                          subst H
                          exact gr Tryd.func28 ⟨rfl, hI.pn⟩
                        · refine ge hc466 (go_skip (go_inBlock ?_))
                          exact hJ446 () _ _ ⟨_, at_, hI⟩ H
                      · refine r_in ?_
                        replace H := cond_some H
                        rcases H with ⟨hc467, H⟩ | ⟨hc467, H⟩
                        · replace H := cond_some H
                          rcases H with ⟨hc468, H⟩ | ⟨hc468, H⟩
                          · refine bx 0 [.p, .p, .c true, .p, .p, .c true, .p, .p, .p, .p, .p, .p, .p] gO _ (bC (bndEq hc467) (bZ (bndEq hc468))) (ro ?_)
                            exact hJ465 true _ _ ⟨_, at_, hI.pick [0, 1] (by decide) rfl⟩ H
                          · refine bx 0 [.p, .p, .c true, .p, .p, .c false, .p, .l 0 2, .p, .p, .p, .p, .p] (gA (hI.grp 3 rfl)) _ (bC (bndEq hc467) (bZ (bndEq hc468))) (ro ?_)
                            exact hJ465 (bAnd .i64 ((idx a1 ((w64 (x355 + 1)).tmod (a1.length : Int))).Kind) a2 == 0) _ _ ⟨_, at_, hI.pick [0, 1] (by decide) rfl⟩ H
                        · refine bx 0 [.p, .p, .c false, .p, .p, .p, .p, .p, .p, .p, .p, .p, .p] gO _ (bZ (bndEq hc467)) (ro ?_)
                          exact hJ465 false _ _ ⟨_, at_, hI.pick [0, 1] (by decide) rfl⟩ H
                    · refine ge hc461 (go_seq (rp 1 ?_))
                      replace H := out_some H
                      obtain ⟨_, H, he2⟩ := H
                      have he := (hout2 _ he2).symm
                      subst he
                      replace H := out_some H
                      obtain ⟨_, H, he1⟩ := H
                      have he := (hout1 _ he1).symm
                      subst he
                      replace H := Option.some.inj H
                      subst H
                      exact gr Tryd.func28 ⟨rfl, hI.pn⟩
          · refine r_in ?_
            replace H := cond_some H
            rcases H with ⟨hc469, H⟩ | ⟨hc469, H⟩
            · refine bx 0 [.p, .p, .c true, .p, .p, .p, .p, .p, .p] gO _ (bZ (bndEq hc469)) (ro ?_)
              exact hJ430 true _ _ ⟨_, at_, hI.pick [0, 1, 2, 3] (by decide) rfl⟩ H
            · refine bx 0 [.p, .p, .c false, .p, .l 0 1, .p, .l 1 0, .p, .p] (gB (hI.grp 2 rfl) (hI.grp 3 rfl)) _ (bZ (bndEq hc469)) (ro ?_)
              exact hJ430 ((idx a1 x355).To != (idx a1 ((w64 (x355 + 1)).tmod (a1.length : Int))).From) _ _ ⟨_, at_, hI.pick [0, 1, 2, 3] (by decide) rfl⟩ H
        · refine ge hc357 ?_
          refine go_exit rfl ?_
          refine go_seq (r_in (bp 0 1 (oe 1 rfl ?_)))
          refine e_maplen (ek := (fun x : Int => vI x)) (ev := (fun _ : Unit => .agg #[])) 71 _ _ b111 m354 3 70 rfl rfl (by kernel_rfl) (by kernel_rfl) (hI.mapAt 1 rfl) ?_
          refine bp 2 4 (ro ?_)
          replace H := out_some H
          obtain ⟨_, H, he2⟩ := H
          have he := (hout2 _ he2).symm
          subst he
          replace H := out_some H
          obtain ⟨_, H, he1⟩ := H
          have he := (hout1 _ he1).symm
          subst he
          replace H := Option.some.inj H
          subst H
          exact gr Tryd.func28 ⟨rfl, hI.pn⟩
  · refine r_in (bg 0 [.l 0 0] (gA (hI.grp 0 rfl)) ?_)
    replace H := bind_some H
    obtain ⟨y470, hy471, H⟩ := H
    refine oe 1 rfl ?_
    refine ec (enter18 _) (graph_Check_calls a0 A0z0 c0z0 (memOf _) _ (Inv.start _) (hI.rd hr0z0) hl0z0 _ hy471) ?_
    rintro _ _ ⟨rfl, hI'⟩
    replace hI := hI.call0 hI'
    clear hI'
    refine ⟨_, rfl, ?_⟩
    replace H := cond_some H
    rcases H with ⟨hc472, H⟩ | ⟨hc472, H⟩
    · refine bx 2 [.p, .c true, .p, .p, .p, .p] gO _ (bZ (bndEq hc472)) (ro ?_)
      exact hJ12 true _ _ ⟨_, at_, hI⟩ H
    · refine bx 2 [.p, .c false, .p, .p, .p, .p] gO _ (bZ (bndEq hc472)) (ro ?_)
      exact hJ12 ((a1.length : Int) == 0) _ _ ⟨_, at_, hI⟩ H

/-! ### ring_newNet -/
theorem enter45 (a : Array Value) : Sem.pureRun Tryd.prog (callFunc 45 a) = some (.enter 45 a) := by kernel_rfl
theorem ring_newNet_calls (a0 : Graph) (A0z0 : Option Addr) (c0z0 : Nat) (a1 : Int) (a2 : Int) (M : Mem) (w : World) (hI : Inv M w []) (N : BM) (hN : Sub N M.blk) (hr0z0 : rdS kEdge N A0z0 a0.Edges) (hl0z0 : a0.Edges.length ≤ c0z0) (r : RingNet) (H : ring_newNet a0 a1 a2 = some r) :
    Calls Tryd.prog 45 #[.agg #[vI a0.N, vS A0z0 a0.Edges.length c0z0], vI a1, vI a2] w fun e w' => ∃ (b578 : Nat), ∃ (A579 : Option Addr), ∃ (c580 : Nat), ∃ (A583 : Option Addr), ∃ (c584 : Nat), e = .returned (vP b578 0) ∧ rdS kEdge N A579 r.g.Edges ∧ r.g.Edges.length ≤ c580 ∧ Inv M w' [.blk b578 89 [vI r.g.N, vS A579 r.g.Edges.length c580, vS A583 r.links.length c584], .row (tSlice 85 kRingLink) 86 A583 r.links.length c584 r.links] := by
  refine cg Tryd.func45 ?_
  intro cs
  unfold ring_newNet at H
  refine go_seq (r_in (oe 0 rfl ?_))
  refine e_box 24 _ (.agg #[vI a0.N, vS A0z0 a0.Edges.length c0z0]) [vI a0.N, vS A0z0 a0.Edges.length c0z0] rfl (by kernel_rfl) rfl hI ?_
  clear hI
  intro b2 _ hI
  refine bp 1 1 (ro (go_seq ?_))
  replace H := must_some H
  obtain ⟨g6, H⟩ := H
  refine go_held (fun w => Inv M w [.blk b2 24 [vI a0.N, vS A0z0 a0.Edges.length c0z0]]) (by kernel_rfl) ?_
  replace hI := hI.drew'
  refine hg (n := 4) [(0, .l 0 0), (1, .p), (2, .l 0 0)] (fun _ hS => (gA (hS.grp 0 rfl))) hI ?_
  refine ho (n := 3) 3 rfl (e_make (tSlice 85 kRingLink) (default : List RingLink) 87 86 _ _ _ (vS none 0 0) a0.N rfl rfl rfl rfl rfl rfl (fun _ => ⟨none, 0, rfl, rowOwn.nil⟩) (by kernel_rfl) (by kernel_rfl) g6 hI ?_)
  clear hI
  intro b7 _ hI
  refine ⟨(hI.pk [0]), ?_⟩
  refine hg (n := 2) [(4, .p)] (fun _ hS => gO) (hI.pk [0]) ?_
  refine ho (n := 1) 5 rfl (e_box 89 _ (.agg #[vI a0.N, vS A0z0 a0.Edges.length c0z0, vS (some ⟨b7, 0, none⟩) a0.N.toNat a0.N.toNat]) [vI a0.N, vS A0z0 a0.Edges.length c0z0, vS (some ⟨b7, 0, none⟩) a0.N.toNat a0.N.toNat] rfl (by kernel_rfl) rfl hI ?_)
  clear hI
  intro b8 _ hI
  refine ⟨(hI.pk [0]), ?_⟩
  refine hg (n := 0) [(6, .p)] (fun _ hS => gO) (hI.pk [0]) (hd (go_seq (go_seq (rg [.p, .p, .p, .l 0 2, .p, .p] (gA (hI.grp 2 rfl)) (go_block ?_)))))
  replace hI := hI.renum 1 rfl
  replace hI := hI.recell 2 [vI a0.N, vS A0z0 a0.Edges.length c0z0, vS (some ⟨b7, 0, none⟩) ((List.replicate a0.N.toNat (default : List RingLink)).length) a0.N.toNat] (by first | rfl | simp only [List.length_set, List.length_replicate, List.length_nil]) rfl
  refine go_iter (ring_newNet.s1 a0 a1 a2) (fun (l170, x173) f w => ∃ (j : Nat → Value) (A171 : Option Addr) (c172 : Nat), f = updL j [(1, vI a1), (2, vI a2), (3, vP b2 0), (7, vP b8 0), (22, vI (a0.N.toNat : Int)), (23, vI x173)] ∧ Inv M w [.blk b2 24 [vI a0.N, vS A0z0 a0.Edges.length c0z0], .blk b8 89 [vI a0.N, vS A0z0 a0.Edges.length c0z0, vS A171 l170.length c172], .row (tSlice 85 kRingLink) 86 A171 l170.length c172 l170]) H ⟨_, (some ⟨b7, 0, none⟩), a0.N.toNat, at_, hI.pick [0, 2, 1] (by decide) rfl⟩ ?_
  clear H hI
  rintro ⟨l170, x173⟩ _ _ o1 H ⟨_, A171, c172, rfl, hI⟩ hin1 hout1
  refine go_seq (rp 1 (go_seq ?_))
  replace H := cond_some H
  rcases H with ⟨hc175, H⟩ | ⟨hc175, H⟩
  · refine gt hc175 (go_skip (go_seq (go_block (go_seq (rp 2 ?_)))))
    replace H := must_some H
    obtain ⟨g198, H⟩ := H
    replace H := must_some H
    obtain ⟨g200, H⟩ := H
    obtain ⟨b201, rfl⟩ := hI.rowAt 2 rfl g200
    obtain ⟨cs204, hk203, hg202⟩ := rdS.look (hI.row 2 rfl) (hI.rowlen 2 rfl) g200
    obtain ⟨A205, c206, rfl, hl208, hr207⟩ := hk203
    refine go_held (fun w => Inv M w [.blk b2 24 [vI a0.N, vS A0z0 a0.Edges.length c0z0], .blk b8 89 [vI a0.N, vS A0z0 a0.Edges.length c0z0, vS (some ⟨b201, 0, none⟩) l170.length c172]]) (by kernel_rfl) ?_
    replace hI := hI.drew'
    refine hg (n := 3) [(0, .p), (1, .p), (2, .p), (3, .l 0 2), (4, .p), (5, .p), (6, .l 1 0)] (fun _ hS => (gB (hS.grp 1 rfl) (hS.grp 0 rfl))) (hI.pk [0, 1]) ?_
    refine ho (n := 2) 7 rfl (e_make kRingLink (default : RingLink) 86 85 _ _ _ (.agg #[vI 0, vI 0]) a0.N rfl rfl rfl rfl rfl rfl (fun _ => rfl) (by kernel_rfl) (by kernel_rfl) g198 hI ?_)
    clear hI
    intro b199 _ hI
    refine ⟨(hI.pk [0, 1]), ?_⟩
    refine hx (n := 1) [(8, .x)] (fun _ hS => gO) (hI.pk [0, 1]) _ (bZ g200) ?_
    refine ho (n := 0) 9 rfl (e_putown 86 _ _ 2 [3] [0, 1] b201 86 l170.length c172 l170 (List.replicate a0.N.toNat (default : RingLink)) x173 (vS (some ⟨b199, 0, none⟩) a0.N.toNat a0.N.toNat) [.row kRingLink 85 (some ⟨b199, 0, none⟩) a0.N.toNat a0.N.toNat (List.replicate a0.N.toNat (default : RingLink))] [.blk b2 24 [vI a0.N, vS A0z0 a0.Edges.length c0z0], .blk b8 89 [vI a0.N, vS A0z0 a0.Edges.length c0z0, vS (some ⟨b201, 0, none⟩) l170.length c172]] rfl (by kernel_rfl) (by kernel_rfl) (by kernel_rfl) (by kernel_rfl) hI (by decide) rfl g200 mk_row ?_)
    clear hI
    intro _ hI
    refine ⟨(hI.pk [1, 2]), ?_⟩
    refine hd (go_inBlock (rp 2 ?_))
    replace hI := hI.renum 0 rfl
    replace hI := hI.recell 2 [vI a0.N, vS A0z0 a0.Edges.length c0z0, vS (some ⟨b201, 0, none⟩) ((l170.set x173.toNat (List.replicate a0.N.toNat (default : RingLink))).length) c172] (by first | rfl | simp only [List.length_set, List.length_replicate, List.length_nil]) rfl
    exact hin1 _ (Option.some.inj H).symm _ _ ⟨_, (some ⟨b201, 0, none⟩), c172, at_, hI.pick [1, 2, 0] (by decide) rfl⟩
  · refine ge hc175 ?_
    refine go_exit rfl ?_
    refine go_seq (go_seq (rg [.p, .l 0 1, .p, .p] (gA (hI.grp 0 rfl)) (go_block ?_)))
    refine go_iter (ring_newNet.s2 a0 a1 a2) (fun (l477, x480) f w => ∃ (j : Nat → Value) (A478 : Option Addr) (c479 : Nat), f = updL j [(1, vI a1), (2, vI a2), (7, vP b8 0), (37, vS A0z0 a0.Edges.length c0z0), (38, vI (a0.Edges.length : Int)), (39, vI x480)] ∧ Inv M w [.blk b8 89 [vI a0.N, vS A0z0 a0.Edges.length c0z0, vS A478 l477.length c479], .row (tSlice 85 kRingLink) 86 A478 l477.length c479 l477]) H ⟨_, A171, c172, at_, hI.pick [1, 2] (by decide) rfl⟩ ?_
    clear H hI
    rintro ⟨l477, x480⟩ _ _ o2 H ⟨_, A478, c479, rfl, hI⟩ hin2 hout2
    refine go_seq (rp 1 (go_seq ?_))
    replace H := cond_some H
    rcases H with ⟨hc482, H⟩ | ⟨hc482, H⟩
    · refine gt hc482 (go_skip (go_seq (go_block (go_seq (r_in ?_)))))
      replace H := must_some H
      obtain ⟨g535, H⟩ := H
      obtain ⟨b536, q537, rfl, _⟩ := rdS.fopen hr0z0 rfl g535
      refine bx 0 [.p, .x, .l 0 0] (gA (hI.lies (Lies.mono (rdS.flook hr0z0 rfl g535) hN))) _ (bZ g535) (oe 3 rfl ?_)
      refine e_alloc 40 (.agg #[vI 0, vI 0, vI 0, vI 0]) [vI 0, vI 0, vI 0, vI 0] rfl (by kernel_rfl) rfl hI ?_
      clear hI
      intro b538 _ hI
      refine bp 4 1 (oe 5 rfl ?_)
      refine e_store 40 _ _ 2 b538 40 [vI 0, vI 0, vI 0, vI 0] [vI ((idx a0.Edges x480).From), vI ((idx a0.Edges x480).To), vI ((idx a0.Edges x480).Kind), vI ((idx a0.Edges x480).Key)] 0 (.agg #[vI ((idx a0.Edges x480).From), vI ((idx a0.Edges x480).To), vI ((idx a0.Edges x480).Kind), vI ((idx a0.Edges x480).Key)]) rfl (by kernel_rfl) (by kernel_rfl) (by kernel_rfl) (by kernel_rfl) hI rfl (by kernel_rfl) (by kernel_rfl) ?_
      clear hI
      intro _ hI
      refine ro (go_seq ?_)
      replace H := must_some H
      obtain ⟨g551, H⟩ := H
      obtain ⟨b552, rfl⟩ := hI.rowAt 1 rfl g551
      obtain ⟨cs555, hk554, hg553⟩ := rdS.look (hI.row 1 rfl) (hI.rowlen 1 rfl) g551
      obtain ⟨A556, c557, rfl, hl559, hr558⟩ := hk554
      replace H := must_some H
      obtain ⟨g560, H⟩ := H
      obtain ⟨b561, q562, rfl, _⟩ := rdS.fopen hr558 rfl g560
      replace hI := hI.takeS (kt := kRingLink) 1 rfl g551 (Lies.ok hg553)
      obtain rfl := hI.row0 0 rfl
      refine dx [.p, .p, .p, .l 0 2, .p, .l 1 0, .x, .l 2 0, .p, .l 1 1, .x, .p] (gC (hI.grp 1 rfl) (hI.grp 3 rfl) hg553.ok) _ (bC g551 (bZ g560)) hI ?_
      clear hI
      intro _ hI
      refine go_seq (go_seq (r_in ?_))
      replace H := cond_some H
      rcases H with ⟨hc566, H⟩ | ⟨hc566, H⟩
      · refine bx 0 [.p, .l 0 2, .p, .p, .p, .c true, .p, .p, .p, .l 1 0, .p, .p] (gB (hI.grp 3 rfl) ((rdS.flook (hI.row 0 rfl) (hI.rowlen 0 rfl) g560).ok)) _ (bZ (bndEq hc566)) (ro ?_)
        replace H := cond_some H
        rcases H with ⟨hc567, H⟩ | ⟨hc567, H⟩
        · refine gt hc567 (r_in (bp 0 5 (oe 5 rfl ?_)))
          refine e_put 3 _ _ 0 b561 85 ((idx l477 ((idx a0.Edges x480).From)).length) c557 (idx l477 ((idx a0.Edges x480).From)) (⟨w64 (x480 + 1), (idx (idx l477 ((idx a0.Edges x480).From)) ((idx a0.Edges x480).To)).loose⟩ : RingLink) ((idx a0.Edges x480).To) 0 (vI (w64 (x480 + 1))) rfl (by kernel_rfl) (by kernel_rfl) (by kernel_rfl) (by kernel_rfl) hI rfl (by simpa only [List.length_set, List.length_replicate] using g560) (by kernel_rfl) (by kernel_rfl) ?_
          clear hI
          intro _ hI
          refine ro (go_seq (r_in ?_))
          replace H := cond_some H
          rcases H with ⟨hc569, H⟩ | ⟨hc569, H⟩
          · refine bx 0 [.p, .l 0 2, .p, .p, .p, .c true, .p, .p, .p, .l 1 1, .p, .p] (gB (hI.grp 3 rfl) ((rdS.flook (hI.row 0 rfl) (hI.rowlen 0 rfl) g560).ok)) _ (bZ (bndEq hc569)) (ro ?_)
            replace H := cond_some H
            rcases H with ⟨hc570, H⟩ | ⟨hc570, H⟩
            · refine gt hc570 (r_in (bp 0 5 (oe 5 rfl ?_)))
              refine e_put 3 _ _ 0 b561 85 ((idx l477 ((idx a0.Edges x480).From)).length) c557 ((idx l477 ((idx a0.Edges x480).From)).set ((idx a0.Edges x480).To).toNat (⟨w64 (x480 + 1), (idx (idx l477 ((idx a0.Edges x480).From)) ((idx a0.Edges x480).To)).loose⟩ : RingLink)) (⟨(idx ((idx l477 ((idx a0.Edges x480).From)).set ((idx a0.Edges x480).To).toNat (⟨w64 (x480 + 1), (idx (idx l477 ((idx a0.Edges x480).From)) ((idx a0.Edges x480).To)).loose⟩ : RingLink)) ((idx a0.Edges x480).To)).tight, w64 (x480 + 1)⟩ : RingLink) ((idx a0.Edges x480).To) 1 (vI (w64 (x480 + 1))) rfl (by kernel_rfl) (by kernel_rfl) (by kernel_rfl) (by kernel_rfl) hI rfl (by simpa only [List.length_set, List.length_replicate] using g560) (by kernel_rfl) (by kernel_rfl) ?_
              clear hI
              intro _ hI
              refine ro (go_inBlock (rp 2 ?_))
              replace hI := Inv.backF (kt := (tSlice 85 kRingLink)) (cs0 := [vS (some ⟨b561, 0, none⟩) ((idx l477 ((idx a0.Edges x480).From)).length) c557]) (R := [.row kRingLink 85 (some ⟨b561, 0, none⟩) ((idx l477 ((idx a0.Edges x480).From)).length) c557 (((idx l477 ((idx a0.Edges x480).From)).set ((idx a0.Edges x480).To).toNat (⟨w64 (x480 + 1), (idx (idx l477 ((idx a0.Edges x480).From)) ((idx a0.Edges x480).To)).loose⟩ : RingLink)).set ((idx a0.Edges x480).To).toNat (⟨(idx ((idx l477 ((idx a0.Edges x480).From)).set ((idx a0.Edges x480).To).toNat (⟨w64 (x480 + 1), (idx (idx l477 ((idx a0.Edges x480).From)) ((idx a0.Edges x480).To)).loose⟩ : RingLink)) ((idx a0.Edges x480).To)).tight, w64 (x480 + 1)⟩ : RingLink))]) (L' := [.blk b8 89 [vI a0.N, vS (some ⟨b536, q537, none⟩) a0.Edges.length c0z0, vS (some ⟨b552, 0, none⟩) l477.length c479], .blk b538 40 [vI ((idx a0.Edges x480).From), vI ((idx a0.Edges x480).To), vI ((idx a0.Edges x480).Kind), vI ((idx a0.Edges x480).Key)]]) 2 [0] [1, 3] (((idx l477 ((idx a0.Edges x480).From)).set ((idx a0.Edges x480).To).toNat (⟨w64 (x480 + 1), (idx (idx l477 ((idx a0.Edges x480).From)) ((idx a0.Edges x480).To)).loose⟩ : RingLink)).set ((idx a0.Edges x480).To).toNat (⟨(idx ((idx l477 ((idx a0.Edges x480).From)).set ((idx a0.Edges x480).To).toNat (⟨w64 (x480 + 1), (idx (idx l477 ((idx a0.Edges x480).From)) ((idx a0.Edges x480).To)).loose⟩ : RingLink)) ((idx a0.Edges x480).To)).tight, w64 (x480 + 1)⟩ : RingLink)) hI (by decide) rfl g551 mk_row
              replace hI := hI.renum 0 rfl
              replace hI := hI.recell 1 [vI a0.N, vS (some ⟨b536, q537, none⟩) a0.Edges.length c0z0, vS (some ⟨b552, 0, none⟩) ((l477.set ((idx a0.Edges x480).From).toNat (((idx l477 ((idx a0.Edges x480).From)).set ((idx a0.Edges x480).To).toNat (⟨w64 (x480 + 1), (idx (idx l477 ((idx a0.Edges x480).From)) ((idx a0.Edges x480).To)).loose⟩ : RingLink)).set ((idx a0.Edges x480).To).toNat (⟨(idx ((idx l477 ((idx a0.Edges x480).From)).set ((idx a0.Edges x480).To).toNat (⟨w64 (x480 + 1), (idx (idx l477 ((idx a0.Edges x480).From)) ((idx a0.Edges x480).To)).loose⟩ : RingLink)) ((idx a0.Edges x480).To)).tight, w64 (x480 + 1)⟩ : RingLink))).length) c479] (by first | rfl | simp only [List.length_set, List.length_replicate, List.length_nil]) rfl
              exact hin2 _ (Option.some.inj H).symm _ _ ⟨_, (some ⟨b552, 0, none⟩), c479, at_, hI.pick [1, 0] (by decide) rfl⟩
            · refine ge hc570 (go_skip (go_inBlock (rp 2 ?_)))
              replace hI := Inv.backF (kt := (tSlice 85 kRingLink)) (cs0 := [vS (some ⟨b561, 0, none⟩) ((idx l477 ((idx a0.Edges x480).From)).length) c557]) (R := [.row kRingLink 85 (some ⟨b561, 0, none⟩) ((idx l477 ((idx a0.Edges x480).From)).length) c557 ((idx l477 ((idx a0.Edges x480).From)).set ((idx a0.Edges x480).To).toNat (⟨w64 (x480 + 1), (idx (idx l477 ((idx a0.Edges x480).From)) ((idx a0.Edges x480).To)).loose⟩ : RingLink))]) (L' := [.blk b8 89 [vI a0.N, vS (some ⟨b536, q537, none⟩) a0.Edges.length c0z0, vS (some ⟨b552, 0, none⟩) l477.length c479], .blk b538 40 [vI ((idx a0.Edges x480).From), vI ((idx a0.Edges x480).To), vI ((idx a0.Edges x480).Kind), vI ((idx a0.Edges x480).Key)]]) 2 [0] [1, 3] ((idx l477 ((idx a0.Edges x480).From)).set ((idx a0.Edges x480).To).toNat (⟨w64 (x480 + 1), (idx (idx l477 ((idx a0.Edges x480).From)) ((idx a0.Edges x480).To)).loose⟩ : RingLink)) hI (by decide) rfl g551 mk_row
              replace hI := hI.renum 0 rfl
              replace hI := hI.recell 1 [vI a0.N, vS (some ⟨b536, q537, none⟩) a0.Edges.length c0z0, vS (some ⟨b552, 0, none⟩) ((l477.set ((idx a0.Edges x480).From).toNat ((idx l477 ((idx a0.Edges x480).From)).set ((idx a0.Edges x480).To).toNat (⟨w64 (x480 + 1), (idx (idx l477 ((idx a0.Edges x480).From)) ((idx a0.Edges x480).To)).loose⟩ : RingLink))).length) c479] (by first | rfl | simp only [List.length_set, List.length_replicate, List.length_nil]) rfl
              exact hin2 _ (Option.some.inj H).symm _ _ ⟨_, (some ⟨b552, 0, none⟩), c479, at_, hI.pick [1, 0] (by decide) rfl⟩
          · refine bx 0 [.p, .l 0 2, .p, .p, .p, .c false, .p, .p, .p, .p, .p, .p] (gA (hI.grp 3 rfl)) _ (bZ (bndEq hc569)) (ro ?_)
            refine go_else (by kernel_rfl) ?_
            refine go_skip (go_inBlock (rp 2 ?_))
            replace hI := Inv.backF (kt := (tSlice 85 kRingLink)) (cs0 := [vS (some ⟨b561, 0, none⟩) ((idx l477 ((idx a0.Edges x480).From)).length) c557]) (R := [.row kRingLink 85 (some ⟨b561, 0, none⟩) ((idx l477 ((idx a0.Edges x480).From)).length) c557 ((idx l477 ((idx a0.Edges x480).From)).set ((idx a0.Edges x480).To).toNat (⟨w64 (x480 + 1), (idx (idx l477 ((idx a0.Edges x480).From)) ((idx a0.Edges x480).To)).loose⟩ : RingLink))]) (L' := [.blk b8 89 [vI a0.N, vS (some ⟨b536, q537, none⟩) a0.Edges.length c0z0, vS (some ⟨b552, 0, none⟩) l477.length c479], .blk b538 40 [vI ((idx a0.Edges x480).From), vI ((idx a0.Edges x480).To), vI ((idx a0.Edges x480).Kind), vI ((idx a0.Edges x480).Key)]]) 2 [0] [1, 3] ((idx l477 ((idx a0.Edges x480).From)).set ((idx a0.Edges x480).To).toNat (⟨w64 (x480 + 1), (idx (idx l477 ((idx a0.Edges x480).From)) ((idx a0.Edges x480).To)).loose⟩ : RingLink)) hI (by decide) rfl g551 mk_row
            replace hI := hI.renum 0 rfl
            replace hI := hI.recell 1 [vI a0.N, vS (some ⟨b536, q537, none⟩) a0.Edges.length c0z0, vS (some ⟨b552, 0, none⟩) ((l477.set ((idx a0.Edges x480).From).toNat ((idx l477 ((idx a0.Edges x480).From)).set ((idx a0.Edges x480).To).toNat (⟨w64 (x480 + 1), (idx (idx l477 ((idx a0.Edges x480).From)) ((idx a0.Edges x480).To)).loose⟩ : RingLink))).length) c479] (by first | rfl | simp only [List.length_set, List.length_replicate, List.length_nil]) rfl
            exact hin2 _ (Option.some.inj H).symm _ _ ⟨_, (some ⟨b552, 0, none⟩), c479, at_, hI.pick [1, 0] (by decide) rfl⟩
        · refine ge hc567 (go_skip (go_seq (r_in ?_)))
          replace H := cond_some H
          rcases H with ⟨hc572, H⟩ | ⟨hc572, H⟩
          · refine bx 0 [.p, .l 0 2, .p, .p, .p, .c true, .p, .p, .p, .l 1 1, .p, .p] (gB (hI.grp 3 rfl) ((rdS.flook (hI.row 0 rfl) (hI.rowlen 0 rfl) g560).ok)) _ (bZ (bndEq hc572)) (ro ?_)
            replace H := cond_some H
            rcases H with ⟨hc573, H⟩ | ⟨hc573, H⟩
            · refine gt hc573 (r_in (bp 0 5 (oe 5 rfl ?_)))
              refine e_put 3 _ _ 0 b561 85 ((idx l477 ((idx a0.Edges x480).From)).length) c557 (idx l477 ((idx a0.Edges x480).From)) (⟨(idx (idx l477 ((idx a0.Edges x480).From)) ((idx a0.Edges x480).To)).tight, w64 (x480 + 1)⟩ : RingLink) ((idx a0.Edges x480).To) 1 (vI (w64 (x480 + 1))) rfl (by kernel_rfl) (by kernel_rfl) (by kernel_rfl) (by kernel_rfl) hI rfl (by simpa only [List.length_set, List.length_replicate] using g560) (by kernel_rfl) (by kernel_rfl) ?_
              clear hI
              intro _ hI
              refine ro (go_inBlock (rp 2 ?_))
              replace hI := Inv.backF (kt := (tSlice 85 kRingLink)) (cs0 := [vS (some ⟨b561, 0, none⟩) ((idx l477 ((idx a0.Edges x480).From)).length) c557]) (R := [.row kRingLink 85 (some ⟨b561, 0, none⟩) ((idx l477 ((idx a0.Edges x480).From)).length) c557 ((idx l477 ((idx a0.Edges x480).From)).set ((idx a0.Edges x480).To).toNat (⟨(idx (idx l477 ((idx a0.Edges x480).From)) ((idx a0.Edges x480).To)).tight, w64 (x480 + 1)⟩ : RingLink))]) (L' := [.blk b8 89 [vI a0.N, vS (some ⟨b536, q537, none⟩) a0.Edges.length c0z0, vS (some ⟨b552, 0, none⟩) l477.length c479], .blk b538 40 [vI ((idx a0.Edges x480).From), vI ((idx a0.Edges x480).To), vI ((idx a0.Edges x480).Kind), vI ((idx a0.Edges x480).Key)]]) 2 [0] [1, 3] ((idx l477 ((idx a0.Edges x480).From)).set ((idx a0.Edges x480).To).toNat (⟨(idx (idx l477 ((idx a0.Edges x480).From)) ((idx a0.Edges x480).To)).tight, w64 (x480 + 1)⟩ : RingLink)) hI (by decide) rfl g551 mk_row
              replace hI := hI.renum 0 rfl
              replace hI := hI.recell 1 [vI a0.N, vS (some ⟨b536, q537, none⟩) a0.Edges.length c0z0, vS (some ⟨b552, 0, none⟩) ((l477.set ((idx a0.Edges x480).From).toNat ((idx l477 ((idx a0.Edges x480).From)).set ((idx a0.Edges x480).To).toNat (⟨(idx (idx l477 ((idx a0.Edges x480).From)) ((idx a0.Edges x480).To)).tight, w64 (x480 + 1)⟩ : RingLink))).length) c479] (by first | rfl | simp only [List.length_set, List.length_replicate, List.length_nil]) rfl
              exact hin2 _ (Option.some.inj H).symm _ _ ⟨_, (some ⟨b552, 0, none⟩), c479, at_, hI.pick [1, 0] (by decide) rfl⟩
            · refine ge hc573 (go_skip (go_inBlock (rp 2 ?_)))
              replace hI := Inv.backF (kt := (tSlice 85 kRingLink)) (cs0 := [vS (some ⟨b561, 0, none⟩) ((idx l477 ((idx a0.Edges x480).From)).length) c557]) (R := [.row kRingLink 85 (some ⟨b561, 0, none⟩) ((idx l477 ((idx a0.Edges x480).From)).length) c557 (idx l477 ((idx a0.Edges x480).From))]) (L' := [.blk b8 89 [vI a0.N, vS (some ⟨b536, q537, none⟩) a0.Edges.length c0z0, vS (some ⟨b552, 0, none⟩) l477.length c479], .blk b538 40 [vI ((idx a0.Edges x480).From), vI ((idx a0.Edges x480).To), vI ((idx a0.Edges x480).Kind), vI ((idx a0.Edges x480).Key)]]) 2 [0] [1, 3] (idx l477 ((idx a0.Edges x480).From)) hI (by decide) rfl g551 mk_row
              replace hI := hI.renum 0 rfl
              replace hI := hI.recell 1 [vI a0.N, vS (some ⟨b536, q537, none⟩) a0.Edges.length c0z0, vS (some ⟨b552, 0, none⟩) ((l477.set ((idx a0.Edges x480).From).toNat (idx l477 ((idx a0.Edges x480).From))).length) c479] (by first | rfl | simp only [List.length_set, List.length_replicate, List.length_nil]) rfl
              exact hin2 _ (Option.some.inj H).symm _ _ ⟨_, (some ⟨b552, 0, none⟩), c479, at_, hI.pick [1, 0] (by decide) rfl⟩
          · refine bx 0 [.p, .l 0 2, .p, .p, .p, .c false, .p, .p, .p, .p, .p, .p] (gA (hI.grp 3 rfl)) _ (bZ (bndEq hc572)) (ro ?_)
            refine go_else (by kernel_rfl) ?_
            refine go_skip (go_inBlock (rp 2 ?_))
            replace hI := Inv.backF (kt := (tSlice 85 kRingLink)) (cs0 := [vS (some ⟨b561, 0, none⟩) ((idx l477 ((idx a0.Edges x480).From)).length) c557]) (R := [.row kRingLink 85 (some ⟨b561, 0, none⟩) ((idx l477 ((idx a0.Edges x480).From)).length) c557 (idx l477 ((idx a0.Edges x480).From))]) (L' := [.blk b8 89 [vI a0.N, vS (some ⟨b536, q537, none⟩) a0.Edges.length c0z0, vS (some ⟨b552, 0, none⟩) l477.length c479], .blk b538 40 [vI ((idx a0.Edges x480).From), vI ((idx a0.Edges x480).To), vI ((idx a0.Edges x480).Kind), vI ((idx a0.Edges x480).Key)]]) 2 [0] [1, 3] (idx l477 ((idx a0.Edges x480).From)) hI (by decide) rfl g551 mk_row
            replace hI := hI.renum 0 rfl
            replace hI := hI.recell 1 [vI a0.N, vS (some ⟨b536, q537, none⟩) a0.Edges.length c0z0, vS (some ⟨b552, 0, none⟩) ((l477.set ((idx a0.Edges x480).From).toNat (idx l477 ((idx a0.Edges x480).From))).length) c479] (by first | rfl | simp only [List.length_set, List.length_replicate, List.length_nil]) rfl
            exact hin2 _ (Option.some.inj H).symm _ _ ⟨_, (some ⟨b552, 0, none⟩), c479, at_, hI.pick [1, 0] (by decide) rfl⟩
      · refine bx 0 [.p, .l 0 2, .p, .p, .p, .c false, .p, .p, .p, .p, .p, .p] (gA (hI.grp 3 rfl)) _ (bZ (bndEq hc566)) (ro ?_)
        refine go_else (by kernel_rfl) ?_
        refine go_skip (go_seq (r_in ?_))
        replace H := cond_some H
        rcases H with ⟨hc575, H⟩ | ⟨hc575, H⟩
        · refine bx 0 [.p, .l 0 2, .p, .p, .p, .c true, .p, .p, .p, .l 1 1, .p, .p] (gB (hI.grp 3 rfl) ((rdS.flook (hI.row 0 rfl) (hI.rowlen 0 rfl) g560).ok)) _ (bZ (bndEq hc575)) (ro ?_)
          replace H := cond_some H
          rcases H with ⟨hc576, H⟩ | ⟨hc576, H⟩
          · refine gt hc576 (r_in (bp 0 5 (oe 5 rfl ?_)))
            refine e_put 3 _ _ 0 b561 85 ((idx l477 ((idx a0.Edges x480).From)).length) c557 (idx l477 ((idx a0.Edges x480).From)) (⟨(idx (idx l477 ((idx a0.Edges x480).From)) ((idx a0.Edges x480).To)).tight, w64 (x480 + 1)⟩ : RingLink) ((idx a0.Edges x480).To) 1 (vI (w64 (x480 + 1))) rfl (by kernel_rfl) (by kernel_rfl) (by kernel_rfl) (by kernel_rfl) hI rfl (by simpa only [List.length_set, List.length_replicate] using g560) (by kernel_rfl) (by kernel_rfl) ?_
            clear hI
            intro _ hI
            refine ro (go_inBlock (rp 2 ?_))
            replace hI := Inv.backF (kt := (tSlice 85 kRingLink)) (cs0 := [vS (some ⟨b561, 0, none⟩) ((idx l477 ((idx a0.Edges x480).From)).length) c557]) (R := [.row kRingLink 85 (some ⟨b561, 0, none⟩) ((idx l477 ((idx a0.Edges x480).From)).length) c557 ((idx l477 ((idx a0.Edges x480).From)).set ((idx a0.Edges x480).To).toNat (⟨(idx (idx l477 ((idx a0.Edges x480).From)) ((idx a0.Edges x480).To)).tight, w64 (x480 + 1)⟩ : RingLink))]) (L' := [.blk b8 89 [vI a0.N, vS (some ⟨b536, q537, none⟩) a0.Edges.length c0z0, vS (some ⟨b552, 0, none⟩) l477.length c479], .blk b538 40 [vI ((idx a0.Edges x480).From), vI ((idx a0.Edges x480).To), vI ((idx a0.Edges x480).Kind), vI ((idx a0.Edges x480).Key)]]) 2 [0] [1, 3] ((idx l477 ((idx a0.Edges x480).From)).set ((idx a0.Edges x480).To).toNat (⟨(idx (idx l477 ((idx a0.Edges x480).From)) ((idx a0.Edges x480).To)).tight, w64 (x480 + 1)⟩ : RingLink)) hI (by decide) rfl g551 mk_row
            replace hI := hI.renum 0 rfl
            replace hI := hI.recell 1 [vI a0.N, vS (some ⟨b536, q537, none⟩) a0.Edges.length c0z0, vS (some ⟨b552, 0, none⟩) ((l477.set ((idx a0.Edges x480).From).toNat ((idx l477 ((idx a0.Edges x480).From)).set ((idx a0.Edges x480).To).toNat (⟨(idx (idx l477 ((idx a0.Edges x480).From)) ((idx a0.Edges x480).To)).tight, w64 (x480 + 1)⟩ : RingLink))).length) c479] (by first | rfl | simp only [List.length_set, List.length_replicate, List.length_nil]) rfl
            exact hin2 _ (Option.some.inj H).symm _ _ ⟨_, (some ⟨b552, 0, none⟩), c479, at_, hI.pick [1, 0] (by decide) rfl⟩
          · refine ge hc576 (go_skip (go_inBlock (rp 2 ?_)))
            replace hI := Inv.backF (kt := (tSlice 85 kRingLink)) (cs0 := [vS (some ⟨b561, 0, none⟩) ((idx l477 ((idx a0.Edges x480).From)).length) c557]) (R := [.row kRingLink 85 (some ⟨b561, 0, none⟩) ((idx l477 ((idx a0.Edges x480).From)).length) c557 (idx l477 ((idx a0.Edges x480).From))]) (L' := [.blk b8 89 [vI a0.N, vS (some ⟨b536, q537, none⟩) a0.Edges.length c0z0, vS (some ⟨b552, 0, none⟩) l477.length c479], .blk b538 40 [vI ((idx a0.Edges x480).From), vI ((idx a0.Edges x480).To), vI ((idx a0.Edges x480).Kind), vI ((idx a0.Edges x480).Key)]]) 2 [0] [1, 3] (idx l477 ((idx a0.Edges x480).From)) hI (by decide) rfl g551 mk_row
            replace hI := hI.renum 0 rfl
            replace hI := hI.recell 1 [vI a0.N, vS (some ⟨b536, q537, none⟩) a0.Edges.length c0z0, vS (some ⟨b552, 0, none⟩) ((l477.set ((idx a0.Edges x480).From).toNat (idx l477 ((idx a0.Edges x480).From))).length) c479] (by first | rfl | simp only [List.length_set, List.length_replicate, List.length_nil]) rfl
            exact hin2 _ (Option.some.inj H).symm _ _ ⟨_, (some ⟨b552, 0, none⟩), c479, at_, hI.pick [1, 0] (by decide) rfl⟩
        · refine bx 0 [.p, .l 0 2, .p, .p, .p, .c false, .p, .p, .p, .p, .p, .p] (gA (hI.grp 3 rfl)) _ (bZ (bndEq hc575)) (ro ?_)
          refine go_else (by kernel_rfl) ?_
          refine go_skip (go_inBlock (rp 2 ?_))
          replace hI := Inv.backF (kt := (tSlice 85 kRingLink)) (cs0 := [vS (some ⟨b561, 0, none⟩) ((idx l477 ((idx a0.Edges x480).From)).length) c557]) (R := [.row kRingLink 85 (some ⟨b561, 0, none⟩) ((idx l477 ((idx a0.Edges x480).From)).length) c557 (idx l477 ((idx a0.Edges x480).From))]) (L' := [.blk b8 89 [vI a0.N, vS (some ⟨b536, q537, none⟩) a0.Edges.length c0z0, vS (some ⟨b552, 0, none⟩) l477.length c479], .blk b538 40 [vI ((idx a0.Edges x480).From), vI ((idx a0.Edges x480).To), vI ((idx a0.Edges x480).Kind), vI ((idx a0.Edges x480).Key)]]) 2 [0] [1, 3] (idx l477 ((idx a0.Edges x480).From)) hI (by decide) rfl g551 mk_row
          replace hI := hI.renum 0 rfl
          replace hI := hI.recell 1 [vI a0.N, vS (some ⟨b536, q537, none⟩) a0.Edges.length c0z0, vS (some ⟨b552, 0, none⟩) ((l477.set ((idx a0.Edges x480).From).toNat (idx l477 ((idx a0.Edges x480).From))).length) c479] (by first | rfl | simp only [List.length_set, List.length_replicate, List.length_nil]) rfl
          exact hin2 _ (Option.some.inj H).symm _ _ ⟨_, (some ⟨b552, 0, none⟩), c479, at_, hI.pick [1, 0] (by decide) rfl⟩
    · refine ge hc482 ?_
      refine go_exit rfl ?_
      refine go_seq (rp 2 ?_)
      replace H := out_some H
      obtain ⟨_, H, he2⟩ := H
      have he := (hout2 _ he2).symm
      subst he
      replace H := out_some H
      obtain ⟨_, H, he1⟩ := H
      have he := (hout1 _ he1).symm
      subst he
      replace H := Option.some.inj H
      subst H
      exact gr Tryd.func45 ⟨b8, A0z0, c0z0, A478, c479, rfl, hr0z0, hl0z0, hI⟩

/-! ### ring_net_onward_1 -/
theorem enter54 (a : Array Value) : Sem.pureRun Tryd.prog (callFunc 54 a) = some (.enter 54 a) := by kernel_rfl
theorem ring_net_onward_1zcalls {σ : Type} (l : Nat) (B : σ → Asrt) (Y : σ → RingSpot → Option (Bool × σ)) (s0 : σ) (b1z : Nat) (a1 : Int) (b2z : Nat) (a2 : RingNet) (b2z0 : Nat) (A2z1 : Option Addr) (c2z1 : Nat) (A2z2 : Option Addr) (c2z2 : Nat) (b3z : Nat) (a3 : RingSpot) (M : Mem) (w : World) (hI : Inv M w [B s0]) (hY : ∀ (s : σ) (a : RingSpot) (x : Bool × σ) (w : World) (L : List Asrt), Y s a = some x → Inv M w (B s :: L) → YieldC Tryd.prog l #[.agg #[vI a.node, vB a.last_, vB a.first_]] w (fun v w' => v = vB x.1 ∧ Inv M w' (B x.2 :: L))) (hb1z : Lies M.blk (b1z, 0, [vI a1])) (hb2z : Lies M.blk (b2z, 0, [vP b2z0 0])) (hb2z0 : Lies M.blk (b2z0, 0, [vI a2.g.N, vS A2z1 a2.g.Edges.length c2z1, vS A2z2 a2.links.length c2z2])) (hr2z1 : rdS kEdge M.blk A2z1 a2.g.Edges) (hl2z1 : a2.g.Edges.length ≤ c2z1) (hr2z2 : rdS (tSlice 85 kRingLink) M.blk A2z2 a2.links) (hl2z2 : a2.links.length ≤ c2z2) (hb3z : Lies M.blk (b3z, 0, [vI a3.node, vB a3.last_, vB a3.first_])) (r : σ) (H : ring_net_onward_1 Y a1 a2 a3 s0 = some r) :
    Calls Tryd.prog 54 #[.func (.yield l) #[] #[], vP b1z 0, vP b2z 0, vP b3z 0] w fun e w' => e = .returned (.tuple #[]) ∧ Inv M w' [B r] := by
  refine cg Tryd.func54 ?_
  intro cs
  unfold ring_net_onward_1 at H
  refine go_seq (rg [.l 0 0, .p] (gA (hI.lies hb1z)) (go_block ?_))
  refine go_iter (ring_net_onward_1.s1 Y a2 a3) (fun (x138, s139) f w => ∃ (j : Nat → Value), f = updL j [(0, .func (.yield l) #[] #[]), (2, vP b2z 0), (3, vP b3z 0), (5, vI x138)] ∧ Inv M w [B s139]) H ⟨_, at_, hI⟩ ?_
  clear H hI
  rintro ⟨x138, s139⟩ _ _ o1 H ⟨_, rfl, hI⟩ hin1 hout1
  refine go_seq (go_seq (rg [.p, .l 0 0, .p, .p, .p, .l 1 0, .p] (gB (hI.lies hb2z) (hI.lies hb2z0)) ?_))
  replace H := cond_some H
  rcases H with ⟨hc141, H⟩ | ⟨hc141, H⟩
  · refine gt hc141 (go_skip (go_seq ?_))
    refine go_block_join (o := o1) (fun s185 f w => ∃ (j : Nat → Value), f = updL j [(0, .func (.yield l) #[] #[]), (2, vP b2z 0), (3, vP b3z 0), (5, vI x138)] ∧ Inv M w [B s185]) (fun s185 => ring_net_onward_1.j2 x138 s185) ?_ (fun hJ186 => ?_)
    · clear H hI
      rintro s185 _ _ ⟨_, rfl, hI⟩ H
      refine rp 3 ?_
      exact hin1 _ (Option.some.inj H).symm _ _ ⟨_, at_, hI⟩
    · refine go_seq ?_
      replace H := must_some H
      obtain ⟨g201, H⟩ := H
      obtain ⟨b205, q206, rfl, cs204, hk203, hg202⟩ := rdS.open hr2z2 rfl g201
      obtain ⟨A207, c208, rfl, hl210, hr209⟩ := hk203
      replace H := must_some H
      obtain ⟨g211, H⟩ := H
      obtain ⟨b212, q213, rfl, _⟩ := rdS.fopen hr209 rfl g211
      refine go_held (fun w => Inv M w [B s139]) (by kernel_rfl) ?_
      replace hI := hI.drew'
      refine hx (n := 2) [(0, .l 0 0), (1, .p), (2, .p), (3, .l 1 2), (4, .p), (5, .l 2 0), (6, .x), (7, .l 3 0), (8, .p), (9, .x), (10, .l 4 0)] (fun _ hS => (gK (hS.lies hb2z) (gD (hS.lies hb2z0) (hS.lies hb3z) (hS.lies hg202) (hS.lies (rdS.flook hr209 rfl g211))))) hI _ (bC g201 (bZ g211)) ?_
      refine ho (n := 1) 11 rfl (e_alloc 85 (.agg #[vI 0, vI 0]) [vI 0, vI 0] rfl (by kernel_rfl) rfl hI ?_)
      clear hI
      intro b214 _ hI
      refine ⟨(hI.pk [0]), ?_⟩
      refine ho (n := 0) 12 rfl (e_store 85 _ _ 1 b214 85 [vI 0, vI 0] [vI ((idx (idx a2.links a3.node) x138).tight), vI ((idx (idx a2.links a3.node) x138).loose)] 0 (.agg #[vI ((idx (idx a2.links a3.node) x138).tight), vI ((idx (idx a2.links a3.node) x138).loose)]) rfl (by kernel_rfl) (by kernel_rfl) (by kernel_rfl) (by kernel_rfl) hI rfl (by kernel_rfl) (by kernel_rfl) ?_)
      clear hI
      intro _ hI
      refine ⟨(hI.pk [0]), ?_⟩
      refine hd (go_seq ?_)
      refine go_seq_join (o := o1) (fun b221 f w => ∃ (j : Nat → Value), f = updL j [(0, .func (.yield l) #[] #[]), (2, vP b2z 0), (3, vP b3z 0), (5, vI x138), (6, vP b214 0), (39, vB b221)] ∧ Inv M w [.blk b214 85 [vI ((idx (idx a2.links a3.node) x138).tight), vI ((idx (idx a2.links a3.node) x138).loose)], B s139]) (fun b221 => ring_net_onward_1.j3 Y a2 a3 x138 s139 b221) ?_ (fun hJ222 => ?_)
      · clear H hI
        rintro b221 _ _ ⟨_, rfl, hI⟩ H
        replace H := cond_some H
        rcases H with ⟨hc223, H⟩ | ⟨hc223, H⟩
        · refine gt hc223 ?_
          refine go_exit rfl ?_
          exact hJ186 s139 _ _ ⟨_, at_, hI.pick [1] (by decide) rfl⟩ H
        · refine ge hc223 (go_skip (go_seq (r_in (bg 0 [.p, .p, .p, .l 0 0, .p, .p, .l 1 2, .p] (gB (hI.grp 0 rfl) (hI.lies hb3z)) ?_))))
          replace H := bind_some H
          obtain ⟨y226, hy227, H⟩ := H
          replace hI := hI.pick (L' := [B s139, .blk b214 85 [vI ((idx (idx a2.links a3.node) x138).tight), vI ((idx (idx a2.links a3.node) x138).loose)]]) [1, 0] (by decide) rfl
          refine o_yield 8 _ rfl (by kernel_rfl) l _ _ _ _ rfl (by kernel_rfl) (by kernel_rfl) (hY _ _ _ _ _ hy227 hI) ?_
          clear hI
          rintro _ _ ⟨rfl, hI⟩
          refine bp 9 1 (ro ?_)
          replace H := cond_some H
          rcases H with ⟨hc228, H⟩ | ⟨hc228, H⟩
          · refine gt hc228 ?_
            replace H := out_some H
            obtain ⟨_, H, he1⟩ := H
            have he := (hout1 _ he1).symm
            subst he
            replace H := Option.some.inj H
            subst H
            exact gr Tryd.func54 ⟨rfl, hI.pk [0]⟩
          · refine ge hc228 (go_skip (go_inBlock ?_))
            exact hJ186 y226.2 _ _ ⟨_, at_, hI.pick [0] (by decide) rfl⟩ H
      · refine r_in ?_
        replace H := cond_some H
        rcases H with ⟨hc229, H⟩ | ⟨hc229, H⟩
        · replace H := cond_some H
          rcases H with ⟨hc230, H⟩ | ⟨hc230, H⟩
          · refine bx 0 [.p, .l 0 0, .p, .c true, .p, .l 0 1, .p, .c true, .p, .p, .p, .p] (gA (hI.grp 1 rfl)) _ (bC (bndEq hc229) (bZ (bndEq hc230))) (ro ?_)
            exact hJ222 true _ _ ⟨_, at_, hI.pick [1, 0] (by decide) rfl⟩ H
          · refine bx 0 [.p, .l 0 0, .p, .c true, .p, .l 0 1, .p, .c false, .p, .l 1 1, .p, .p] (gB (hI.grp 1 rfl) (hI.lies hb3z)) _ (bC (bndEq hc229) (bZ (bndEq hc230))) (ro ?_)
            exact hJ222 a3.last_ _ _ ⟨_, at_, hI.pick [1, 0] (by decide) rfl⟩ H
        · refine bx 0 [.p, .l 0 0, .p, .c false, .p, .p, .p, .p, .p, .p, .p, .p] (gA (hI.grp 1 rfl)) _ (bZ (bndEq hc229)) (ro ?_)
          exact hJ222 false _ _ ⟨_, at_, hI.pick [1, 0] (by decide) rfl⟩ H
  · refine ge hc141 ?_
    refine go_exit rfl ?_
    replace H := out_some H
    obtain ⟨_, H, he1⟩ := H
    have he := (hout1 _ he1).symm
    subst he
    replace H := Option.some.inj H
    subst H
    exact go_finish (.tuple #[]) Tryd.func54 (by kernel_rfl) ⟨rfl, hI⟩

/-! ### ring_net_onward -/
theorem enter51 (a : Array Value) : Sem.pureRun Tryd.prog (callFunc 51 a) = some (.enter 51 a) := by kernel_rfl
theorem ring_net_onward_calls (b0z : Nat) (a0 : RingNet) (A0z0 : Option Addr) (c0z0 : Nat) (A0z1 : Option Addr) (c0z1 : Nat) (a1 : RingSpot) (a2 : Int) (M : Mem) (w : World) (hI : Inv M w []) (hb0z : Lies M.blk (b0z, 0, [vI a0.g.N, vS A0z0 a0.g.Edges.length c0z0, vS A0z1 a0.links.length c0z1])) (hr0z0 : rdS kEdge M.blk A0z0 a0.g.Edges) (hl0z0 : a0.g.Edges.length ≤ c0z0) (hr0z1 : rdS (tSlice 85 kRingLink) M.blk A0z1 a0.links) (hl0z1 : a0.links.length ≤ c0z1) (r : Unit) (H : ring_net_onward a0 a1 a2 = some r) :
    Calls Tryd.prog 51 #[vP b0z 0, .agg #[vI a1.node, vB a1.last_, vB a1.first_], vI a2] w fun e w' => ∃ (b8 : Nat), ∃ (b9 : Nat), ∃ (b10 : Nat), e = .returned (.func (.func 54) #[] #[vP b8 0, vP b9 0, vP b10 0]) ∧ Inv M w' [.blk b8 3 [vI a2], .blk b9 82 [vP b0z 0], .blk b10 99 [vI a1.node, vB a1.last_, vB a1.first_]] := by
  refine cg Tryd.func51 ?_
  intro cs
  unfold ring_net_onward at H
  refine go_seq (r_in (oe 0 rfl ?_))
  refine e_box 82 _ (vP b0z 0) [vP b0z 0] rfl (by kernel_rfl) rfl hI ?_
  clear hI
  intro b4 _ hI
  refine oe 1 rfl ?_
  refine e_box 99 _ (.agg #[vI a1.node, vB a1.last_, vB a1.first_]) [vI a1.node, vB a1.last_, vB a1.first_] rfl (by kernel_rfl) rfl hI ?_
  clear hI
  intro b5 _ hI
  refine oe 2 rfl ?_
  refine e_box 3 _ (vI a2) [vI a2] rfl (by kernel_rfl) rfl hI ?_
  clear hI
  intro b6 _ hI
  refine bp 3 1 (ro (go_seq (rp 2 ?_)))
  replace H := Option.some.inj H
  subst H
  exact gr Tryd.func51 ⟨b6, b4, b5, rfl, hI.pick [2, 0, 1] (by decide) rfl⟩

/-! ### ring_home -/
theorem enter52 (a : Array Value) : Sem.pureRun Tryd.prog (callFunc 52 a) = some (.enter 52 a) := by kernel_rfl
theorem ring_home_calls (a0 : RingSpot) (a1 : Int) (M : Mem) (w : World) (hI : Inv M w []) (r : Bool) (H : ring_home a0 a1 = some r) :
    Calls Tryd.prog 52 #[.agg #[vI a0.node, vB a0.last_, vB a0.first_], vI a1] w fun e w' => e = .returned (vB r) ∧ Inv M w' [] := by
  refine cg Tryd.func52 ?_
  intro cs
  unfold ring_home at H
  refine go_seq (r_in (oe 0 rfl ?_))
  refine e_box 99 _ (.agg #[vI a0.node, vB a0.last_, vB a0.first_]) [vI a0.node, vB a0.last_, vB a0.first_] rfl (by kernel_rfl) rfl hI ?_
  clear hI
  intro b2 _ hI
  refine bp 1 1 (ro (go_seq (r_in ?_)))
  replace H := cond_some H
  rcases H with ⟨hc5, H⟩ | ⟨hc5, H⟩
  · replace H := cond_some H
    rcases H with ⟨hc6, H⟩ | ⟨hc6, H⟩
    · refine bx 0 [.p, .l 0 0, .p, .p, .c true, .p, .l 0 1, .c true, .p, .l 0 2, .p, .p, .p, .p] (gA (hI.grp 0 rfl)) _ (bC (bndEq hc5) (bZ (bndEq hc6))) (ro ?_)
      replace H := Option.some.inj H
      subst H
      exact gr Tryd.func52 ⟨rfl, hI.pn⟩
    · refine bx 0 [.p, .l 0 0, .p, .p, .c true, .p, .l 0 1, .c false, .p, .p, .p, .p, .p, .p] (gA (hI.grp 0 rfl)) _ (bC (bndEq hc5) (bZ (bndEq hc6))) (ro ?_)
      replace H := Option.some.inj H
      subst H
      exact gr Tryd.func52 ⟨rfl, hI.pn⟩
  · refine bx 0 [.p, .l 0 0, .p, .p, .c false, .p, .p, .p, .p, .p, .p, .p, .p, .p] (gA (hI.grp 0 rfl)) _ (bZ (bndEq hc5)) (ro ?_)
    replace H := Option.some.inj H
    subst H
    exact gr Tryd.func52 ⟨rfl, hI.pn⟩

/-! ### ring_trail -/
theorem enter53 (a : Array Value) : Sem.pureRun Tryd.prog (callFunc 53 a) = some (.enter 53 a) := by kernel_rfl
theorem ring_trail_calls (b0z : Nat) (a0 : List (RingSpot × RingSpot)) (a1 : RingSpot) (a2 : Int) (M : Mem) (w : World) (hI : Inv M w []) (hr0z : rdMap (fun x : RingSpot => .agg #[vI x.node, vB x.last_, vB x.first_]) (fun x : RingSpot => .agg #[vI x.node, vB x.last_, vB x.first_]) M.blk b0z a0) (r : (List Int × Bool)) (H : ring_trail a0 a1 a2 = some r) :
    Calls Tryd.prog 53 #[.map (some b0z), .agg #[vI a1.node, vB a1.last_, vB a1.first_], vI a2] w fun e w' => ∃ (A220 : Option Addr), ∃ (c221 : Nat), e = .returned (vS A220 r.1.length c221) ∧ A220.isNone = r.2 ∧ Inv M w' [.row (tInt .i64) 3 A220 r.1.length c221 r.1] := by
  refine cg Tryd.func53 ?_
  intro cs
  unfold ring_trail at H
  refine go_seq (r_in (oe 0 rfl ?_))
  refine e_box 99 _ (.agg #[vI a1.node, vB a1.last_, vB a1.first_]) [vI a1.node, vB a1.last_, vB a1.first_] rfl (by kernel_rfl) rfl hI ?_
  clear hI
  intro b2 _ hI
  refine bp 1 1 (ro (go_seq (r_in (oe 0 rfl ?_))))
  refine e_empty (α := Int) (tInt .i64) 43 3 _ rfl rfl rfl hI ?_
  clear hI
  intro b4 _ hI
  refine bp 1 1 (ro (go_seq (go_block ?_)))
  refine go_is 7 (vS (some ⟨b4, 0, none⟩) 0 0) (vS (some ⟨b4, 0, none⟩) (([] : List Int).length) 0) (by kernel_rfl) (by first | rfl | simp only [List.length_set, List.length_replicate, List.length_nil]) ?_
  replace hI := hI.renum 1 rfl
  refine go_iter (ring_trail.s1 a0 a2) (fun (x180, b181, b182, l183) f w => ∃ (j : Nat → Value) (A184 : Option Addr) (c185 : Nat), f = updL j [(0, .map (some b0z)), (2, vI a2), (4, vP b2 0), (7, vS A184 l183.length c185)] ∧ A184.isNone = false ∧ Inv M w [.blk b2 99 [vI x180, vB b181, vB b182], .row (tInt .i64) 3 A184 l183.length c185 l183]) H ⟨_, (some ⟨b4, 0, none⟩), 0, at_, rfl, hI⟩ ?_
  clear H hI
  rintro ⟨x180, b181, b182, l183⟩ _ _ o1 H ⟨_, A184, c185, rfl, hn186, hI⟩ hin1 hout1
  refine go_seq (go_seq (rg [.p, .l 0 0, .p] (gA (hI.grp 0 rfl)) ?_))
  replace H := cond_some H
  rcases H with ⟨hc188, H⟩ | ⟨hc188, H⟩
  · refine gt hc188 (go_skip (go_seq (go_block (r_in (bg 0 [.p, .l 0 0] (gA (hI.grp 0 rfl)) (oe 2 rfl ?_))))))
    refine e_partsS 43 3 1 _ _ _ #[vI x180] [vI x180] rfl rfl rfl rfl (by kernel_rfl) (by kernel_rfl) (by kernel_rfl) (by kernel_rfl) hI ?_
    clear hI
    intro b201 _ hs202 hI
    replace hI := hI.asrow (k := (tInt .i64)) (xs := ([x180] : List Int)) (cs := [vI x180]) (R := []) (L' := [.blk b2 99 [vI x180, vB b181, vB b182], .row (tInt .i64) 3 A184 l183.length c185 l183]) 1 2 [] [0, 1] (by decide) rfl (mks_cons (mk_flat (k := (tInt .i64)) x180 [vI x180] rfl) mks_nil) rfl rfl (by kernel_rfl)
    refine bp 3 1 ?_
    replace H := must_some H
    obtain ⟨g203, H⟩ := H
    refine oe 4 rfl ?_
    refine e_append_rd (kt := (tInt .i64)) 43 0 3 _ _ _ _ (some ⟨b201, 0, none⟩) A184 1 1 ([x180] : List Int) l183 c185 0 [1, 2] [.blk b2 99 [vI x180, vB b181, vB b182], .row (tInt .i64) 3 A184 l183.length c185 l183] rfl (by kernel_rfl) (by kernel_rfl) rfl rfl rfl rfl rfl (by kernel_rfl) hI (by decide) rfl (hI.row 2 rfl) g203 ?_
    clear hI
    intro A204 c205 _ hI
    have hn206 := row_some (hI.row 0 rfl) (by simp)
    refine bp 5 1 (ro (go_inBlock (r_in (bg 0 [.p, .l 0 0] (gA (hI.grp 1 rfl)) (oe 2 rfl ?_)))))
    refine e_lookup (ek := (fun x : RingSpot => .agg #[vI x.node, vB x.last_, vB x.first_])) (ev := (fun x : RingSpot => .agg #[vI x.node, vB x.last_, vB x.first_])) 94 99 99 _ _ false b0z a0 (⟨x180, b181, b182⟩ : RingSpot) rfl (by kernel_rfl) keyRingSpot (fun _ => by kernel_rfl) (by kernel_rfl) (by kernel_rfl) (rdMap.mono hr0z hI.fix) ?_
    refine oe 3 rfl ?_
    refine e_store 99 _ _ 1 b2 99 [vI x180, vB b181, vB b182] [vI ((mat a0 (⟨x180, b181, b182⟩ : RingSpot)).node), vB ((mat a0 (⟨x180, b181, b182⟩ : RingSpot)).last_), vB ((mat a0 (⟨x180, b181, b182⟩ : RingSpot)).first_)] 0 (.agg #[vI ((mat a0 (⟨x180, b181, b182⟩ : RingSpot)).node), vB ((mat a0 (⟨x180, b181, b182⟩ : RingSpot)).last_), vB ((mat a0 (⟨x180, b181, b182⟩ : RingSpot)).first_)]) rfl (by kernel_rfl) (by kernel_rfl) (by kernel_rfl) (by kernel_rfl) hI rfl (by kernel_rfl) (by kernel_rfl) ?_
    clear hI
    intro _ hI
    refine ro ?_
    exact hin1 _ (Option.some.inj H).symm _ _ ⟨_, A204, c205, at_, hn206, hI.pick [1, 0] (by decide) rfl⟩
  · refine ge hc188 ?_
    refine go_exit rfl ?_
    refine go_seq (r_in (bp 0 1 (oe 1 rfl ?_)))
    refine e_partsS 43 3 1 _ _ _ #[vI a2] [vI a2] rfl rfl rfl rfl (by kernel_rfl) (by kernel_rfl) (by kernel_rfl) (by kernel_rfl) hI ?_
    clear hI
    intro b213 _ hs214 hI
    replace hI := hI.asrow (k := (tInt .i64)) (xs := ([a2] : List Int)) (cs := [vI a2]) (R := []) (L' := [.blk b2 99 [vI x180, vB b181, vB b182], .row (tInt .i64) 3 A184 l183.length c185 l183]) 1 2 [] [0, 1] (by decide) rfl (mks_cons (mk_flat (k := (tInt .i64)) a2 [vI a2] rfl) mks_nil) rfl rfl (by kernel_rfl)
    refine bp 2 1 ?_
    replace H := must_some H
    obtain ⟨g215, H⟩ := H
    refine oe 3 rfl ?_
    refine e_append_rd (kt := (tInt .i64)) 43 0 3 _ _ _ _ (some ⟨b213, 0, none⟩) A184 1 1 ([a2] : List Int) l183 c185 0 [1, 2] [.blk b2 99 [vI x180, vB b181, vB b182], .row (tInt .i64) 3 A184 l183.length c185 l183] rfl (by kernel_rfl) (by kernel_rfl) rfl rfl rfl rfl rfl (by kernel_rfl) hI (by decide) rfl (hI.row 2 rfl) g215 ?_
    clear hI
    intro A216 c217 _ hI
    have hn218 := row_some (hI.row 0 rfl) (by simp)
    refine bp 4 1 (ro ?_)
    replace H := out_some H
    obtain ⟨_, H, he1⟩ := H
    have he := (hout1 _ he1).symm
    subst he
    replace H := Option.some.inj H
    subst H
    exact gr Tryd.func53 ⟨A216, c217, rfl, hn218, hI.pick [0] (by decide) rfl⟩

/-! ### ring_net_round -/
theorem enter49 (a : Array Value) : Sem.pureRun Tryd.prog (callFunc 49 a) = some (.enter 49 a) := by kernel_rfl
theorem ring_net_round_calls (b0z : Nat) (a0 : RingNet) (A0z0 : Option Addr) (c0z0 : Nat) (A0z1 : Option Addr) (c0z1 : Nat) (a1 : Int) (a2 : Int) (M : Mem) (w : World) (hI : Inv M w []) (hb0z : Lies M.blk (b0z, 0, [vI a0.g.N, vS A0z0 a0.g.Edges.length c0z0, vS A0z1 a0.links.length c0z1])) (hr0z0 : rdS kEdge M.blk A0z0 a0.g.Edges) (hl0z0 : a0.g.Edges.length ≤ c0z0) (hr0z1 : rdS (tSlice 85 kRingLink) M.blk A0z1 a0.links) (hl0z1 : a0.links.length ≤ c0z1) (r : (List Int × Bool)) (H : ring_net_round a0 a1 a2 = some r) :
    Calls Tryd.prog 49 #[vP b0z 0, vI a1, vI a2] w fun e w' => ∃ (A6091 : Option Addr), ∃ (c6092 : Nat), e = .returned (vS A6091 r.1.length c6092) ∧ A6091.isNone = r.2 ∧ Inv M w' [.row (tInt .i64) 3 A6091 r.1.length c6092 r.1] := by
  refine calls_goM (updL (fun _ => undef) [(0, vP b0z 0), (1, vI a1), (2, vI a2)]) Tryd.func49 rfl (by kernel_rfl) ?_
  intro cs
  replace hI := hI.nomarks
  unfold ring_net_round at H
  refine go_seq (r_in (oe 0 rfl ?_))
  refine e_box 3 _ (vI a1) [vI a1] rfl (by kernel_rfl) rfl hI ?_
  clear hI
  intro b3 _ hI
  refine oe 1 rfl ?_
  refine e_alloc 43 (vS none 0 0) [vS none 0 0] rfl (by kernel_rfl) rfl hI ?_
  clear hI
  intro b4 _ hI
  refine ro (go_seq (r_in (oe 0 rfl ?_)))
  refine e_makemap RingSpot RingSpot (fun x : RingSpot => .agg #[vI x.node, vB x.last_, vB x.first_]) (fun x : RingSpot => .agg #[vI x.node, vB x.last_, vB x.first_]) 94 rfl hI ?_
  clear hI
  intro b7 _ hI
  refine oe 1 rfl ?_
  refine e_alloc 94 (.map none) [.map none] rfl (by kernel_rfl) rfl hI ?_
  clear hI
  intro b8 _ hI
  refine oe 2 rfl ?_
  refine e_store 94 _ _ 4 b8 94 [.map none] [.map (some b7)] 0 (.map (some b7)) rfl (by kernel_rfl) (by kernel_rfl) (by kernel_rfl) (by kernel_rfl) hI rfl (by kernel_rfl) (by kernel_rfl) ?_
  clear hI
  intro _ hI
  refine ro (go_seq (r_in (oe 0 rfl ?_)))
  refine e_alloc 95 (vS none 0 0) [vS none 0 0] rfl (by kernel_rfl) rfl hI ?_
  clear hI
  intro b10 _ hI
  refine ro (go_seq (go_seq (r_in (bg 0 [.p, .l 0 0, .p, .l 0 0] (gA (hI.grp 1 rfl)) ?_))))
  replace H := bind_some H
  obtain ⟨y119, hy120, H⟩ := H
  refine oe 4 rfl ?_
  refine ec (enter51 _) (ring_net_onward_calls b0z a0 A0z0 c0z0 A0z1 c0z1 (⟨a1, false, false⟩ : RingSpot) a1 (memOf _) _ (Inv.start _) (Lies.mono hb0z hI.fix) (hI.rd hr0z0) hl0z0 (hI.rd hr0z1) hl0z1 _ hy120) ?_
  rintro _ _ ⟨b121, b122, b123, rfl, hI'⟩
  replace hI := hI.call0 hI'
  clear hI'
  refine ⟨_, rfl, ?_⟩
  refine ro (go_block ?_)
  obtain ⟨M222, F223, hs224, hb225, ho226, hI'⟩ := hI.lend 6 rfl
  clear hI
  have hI := hI'.pick (L' := [marksA [], .blk b3 3 [vI a1], .blk b4 43 [vS none 0 0], mapA (fun x : RingSpot => .agg #[vI x.node, vB x.last_, vB x.first_]) (fun x : RingSpot => .agg #[vI x.node, vB x.last_, vB x.first_]) b7 ([] : List (RingSpot × RingSpot)), .blk b8 94 [.map (some b7)], .blk b10 95 [vS none 0 0], .blk b122 82 [vP b0z 0], .blk b123 99 [vI a1, vB false, vB false]]) [0, 1, 2, 3, 4, 5, 7, 8] (by decide) rfl
  clear hI'
  have hr227 := blkOwn.lies ho226
  have hf228 := Lies.mono hb0z hs224
  have hf229 := rdS.mono hr0z0 hs224
  have hf230 := rdS.mono hr0z1 hs224
  obtain ⟨M231, F232, hs233, hb234, ho235, hI'⟩ := hI.lend 6 rfl
  clear hI
  have hI := hI'.pick (L' := [marksA [], .blk b3 3 [vI a1], .blk b4 43 [vS none 0 0], mapA (fun x : RingSpot => .agg #[vI x.node, vB x.last_, vB x.first_]) (fun x : RingSpot => .agg #[vI x.node, vB x.last_, vB x.first_]) b7 ([] : List (RingSpot × RingSpot)), .blk b8 94 [.map (some b7)], .blk b10 95 [vS none 0 0], .blk b123 99 [vI a1, vB false, vB false]]) [0, 1, 2, 3, 4, 5, 7] (by decide) rfl
  clear hI'
  have hr236 := blkOwn.lies ho235
  have hf237 := Lies.mono hf228 hs233
  have hf238 := rdS.mono hf229 hs233
  have hf239 := rdS.mono hf230 hs233
  have hf240 := Lies.mono hr227 hs233
  obtain ⟨M241, F242, hs243, hb244, ho245, hI'⟩ := hI.lend 6 rfl
  clear hI
  have hI := hI'.pick (L' := [marksA [], .blk b3 3 [vI a1], .blk b4 43 [vS none 0 0], mapA (fun x : RingSpot => .agg #[vI x.node, vB x.last_, vB x.first_]) (fun x : RingSpot => .agg #[vI x.node, vB x.last_, vB x.first_]) b7 ([] : List (RingSpot × RingSpot)), .blk b8 94 [.map (some b7)], .blk b10 95 [vS none 0 0]]) [0, 1, 2, 3, 4, 5] (by decide) rfl
  clear hI'
  have hr246 := blkOwn.lies ho245
  have hf247 := Lies.mono hf237 hs243
  have hf248 := rdS.mono hf238 hs243
  have hf249 := rdS.mono hf239 hs243
  have hf250 := Lies.mono hf240 hs243
  have hf251 := Lies.mono hr236 hs243
  replace H := bind_some H
  obtain ⟨o6088, ho6089, H⟩ := H
  refine go_over (ω := ((List (RingSpot × RingSpot)) × List RingSpot × Bool) ⊕ Unit) (α := RingSpot) 54 #[] #[vP b121 0, vP b122 0, vP b123 0] (fun a : RingSpot => #[.agg #[vI a.node, vB a.last_, vB a.first_]]) (fun a : RingSpot => [(25, .agg #[vI a.node, vB a.last_, vB a.first_])]) (fun rc D l => fun | .inl ((m311, l312, b315)) => bagx (fun ((A313, c314) : Option Addr × Nat) => A313.isNone = b315 ∧ True) (fun ((A313, c314) : Option Addr × Nat) => [objA D (.deferred (some [])), objA l (.loop (recAt rc .ready none)), marksA [], .blk b3 3 [vI a1], .blk b4 43 [vS none 0 0], .blk b8 94 [.map (some b7)], mapA (fun x : RingSpot => .agg #[vI x.node, vB x.last_, vB x.first_]) (fun x : RingSpot => .agg #[vI x.node, vB x.last_, vB x.first_]) b7 m311, .blk b10 95 [vS A313 l312.length c314], .row kRingSpot 99 A313 l312.length c314 l312]) | .inr _ => bagx (fun ((A317, c318) : Option Addr × Nat) => A317.isNone = false ∧ True) (fun ((A317, c318) : Option Addr × Nat) => [objA D (.deferred (some [])), objA l (.loop (recAt rc .done (some .ret))), marksA [], .blk b4 43 [vS A317 (([a1] : List Int).length) c318], .row (tInt .i64) 3 A317 (([a1] : List Int).length) c318 ([a1] : List Int)])) (ring_net_round.y1 a1) (.inl ([], [], true)) o6088 rfl (by kernel_rfl) enter54 (fun _ => by simp) (fun _ => rfl) hI ?_ ?_ ?_ ?_
  · intro rc D l w hI
    exact Inv.tobag (none, 0) ⟨rfl, trivial⟩ ((hI.nilrow kRingSpot 99).pick [0, 1, 2, 3, 4, 6, 5, 7, 8] (by decide) rfl)
  · intro rc D l w hI hY
    exact ring_net_onward_1zcalls l _ (ring_net_round.y1 a1) (.inl ([], [], true)) b121 a1 b122 a0 b0z A0z0 c0z0 A0z1 c0z1 b123 (⟨a1, false, false⟩ : RingSpot) M241 w hI hY hf250 hf251 hf247 hf248 hl0z0 hf249 hl0z1 hr246 _ ho6089
  · rintro rc D l (⟨m311, l312, b315⟩ | _) a252 r w T H hI
    · obtain ⟨⟨A313, c314⟩, ⟨hn316, _⟩, hI⟩ := hI.unbag
      replace hI : Inv M241 w [objA D (.deferred (some [])), objA l (.loop (recAt rc .ready none)), marksA [], .blk b3 3 [vI a1], .blk b4 43 [vS none 0 0], .blk b8 94 [.map (some b7)], mapA (fun x : RingSpot => .agg #[vI x.node, vB x.last_, vB x.first_]) (fun x : RingSpot => .agg #[vI x.node, vB x.last_, vB x.first_]) b7 m311, .blk b10 95 [vS A313 l312.length c314], .row kRingSpot 99 A313 l312.length c314 l312, T] := hI
      refine ⟨⟨_, _, _, hI.objAt 1 rfl, rfl⟩, fun c cs => ?_⟩
      refine r_in (oe 0 rfl ?_)
      refine e_alloc 99 (.agg #[vI 0, vB false, vB false]) [vI 0, vB false, vB false] rfl (by kernel_rfl) rfl hI ?_
      clear hI
      intro b320 _ hI
      refine oe 1 rfl ?_
      refine e_store 99 _ _ 10 b320 99 [vI 0, vB false, vB false] [vI a252.node, vB a252.last_, vB a252.first_] 0 (.agg #[vI a252.node, vB a252.last_, vB a252.first_]) rfl (by kernel_rfl) (by kernel_rfl) (by kernel_rfl) (by kernel_rfl) hI rfl (by kernel_rfl) (by kernel_rfl) ?_
      clear hI
      intro _ hI
      refine ro ?_
      refine go_begin rfl hI 1 rfl rfl ?_
      clear hI
      intro w hI
      refine go_block_join (o := r) (fun (m334, l335, b338) f w => ∃ (j : Nat → Value) (A336 : Option Addr) (c337 : Nat), f = updL j [] ∧ A336.isNone = b338 ∧ Inv M241 w [.blk b3 3 [vI a1], .blk b4 43 [vS none 0 0], .blk b8 94 [.map (some b7)], mapA (fun x : RingSpot => .agg #[vI x.node, vB x.last_, vB x.first_]) (fun x : RingSpot => .agg #[vI x.node, vB x.last_, vB x.first_]) b7 m334, .blk b10 95 [vS A336 l335.length c337], .row kRingSpot 99 A336 l335.length c337 l335, objA D (.deferred (some [])), objA l (.loop { recAt rc .ready none with state := .busy }), marksA [], T]) (fun (m334, l335, b338) => ring_net_round.j2 m334 l335 b338) ?_ (fun hJ340 => ?_)
      · clear H hI
        rintro ⟨m334, l335, b338⟩ _ _ ⟨_, A336, c337, rfl, hn339, hI⟩ H
        replace H := Option.some.inj H
        subst H
        refine go_round_end rfl rfl hI 7 rfl ?_
        clear hI
        intro w hI
        exact ⟨_, rfl, rfl, Inv.tobag (A336, c337) ⟨hn339, trivial⟩ (hI.pk [6, 7, 8, 0, 1, 2, 3, 4, 5, 9])⟩
      · refine go_seq (r_in (bg 0 [.p, .l 0 1, .p] (gA (hI.grp 10 rfl)) (oe 3 rfl ?_)))
        refine e_store 4 _ _ 10 b320 99 [vI a252.node, vB a252.last_, vB a252.first_] [vI a252.node, vB a252.last_, vB a252.last_] 2 (vB a252.last_) rfl (by kernel_rfl) (by kernel_rfl) (by kernel_rfl) (by kernel_rfl) hI rfl (by kernel_rfl) (by kernel_rfl) ?_
        clear hI
        intro _ hI
        refine ro (go_seq (go_seq (r_in (bg 0 [.l 0 0, .l 1 0] (gB (hI.grp 10 rfl) (hI.grp 3 rfl)) ?_))))
        replace H := bind_some H
        obtain ⟨y348, hy349, H⟩ := H
        refine oe 2 rfl ?_
        refine ec (enter52 _) (ring_home_calls (⟨a252.node, a252.last_, a252.last_⟩ : RingSpot) a1 (memOf _) _ (Inv.start _) _ hy349) ?_
        rintro _ _ ⟨rfl, hI'⟩
        replace hI := hI.call0 hI'
        clear hI'
        refine ⟨_, rfl, ?_⟩
        refine ro ?_
        replace H := cond_some H
        rcases H with ⟨hc350, H⟩ | ⟨hc350, H⟩
        · refine gt hc350 (go_seq (r_in (bg 0 [.l 0 0] (gA (hI.grp 3 rfl)) (oe 1 rfl ?_))))
          refine e_partsS 43 3 1 _ _ _ #[vI a1] [vI a1] rfl rfl rfl rfl (by kernel_rfl) (by kernel_rfl) (by kernel_rfl) (by kernel_rfl) hI ?_
          clear hI
          intro b353 _ hs354 hI
          replace hI := hI.asrow (k := (tInt .i64)) (xs := ([a1] : List Int)) (cs := [vI a1]) (R := []) (L' := [objA D (.deferred (some [])), objA l (.loop { recAt rc .ready none with state := .busy }), marksA [], .blk b3 3 [vI a1], .blk b4 43 [vS none 0 0], .blk b8 94 [.map (some b7)], mapA (fun x : RingSpot => .agg #[vI x.node, vB x.last_, vB x.first_]) (fun x : RingSpot => .agg #[vI x.node, vB x.last_, vB x.first_]) b7 m311, .blk b10 95 [vS A313 l312.length c314], .row kRingSpot 99 A313 l312.length c314 l312, T, .blk b320 99 [vI a252.node, vB a252.last_, vB a252.last_]]) 1 11 [] [0, 1, 2, 3, 4, 5, 6, 7, 8, 9, 10] (by decide) rfl (mks_cons (mk_flat (k := (tInt .i64)) a1 [vI a1] rfl) mks_nil) rfl rfl (by kernel_rfl)
          refine oe 2 rfl ?_
          refine e_store 43 _ _ 5 b4 43 [vS none 0 0] [vS (some ⟨b353, 0, none⟩) 1 1] 0 (vS (some ⟨b353, 0, none⟩) 1 1) rfl (by kernel_rfl) (by kernel_rfl) (by kernel_rfl) (by kernel_rfl) hI rfl (by kernel_rfl) (by kernel_rfl) ?_
          clear hI
          intro _ hI
          refine ro ?_
          replace hI := hI.renum 0 rfl
          replace hI := hI.recell 5 [vS (some ⟨b353, 0, none⟩) (([a1] : List Int).length) 1] (by first | rfl | simp only [List.length_set, List.length_replicate, List.length_nil]) rfl
          replace H := Option.some.inj H
          subst H
          refine go_round_ret rfl rfl hI 2 rfl ?_
          clear hI
          intro w hI
          exact ⟨_, rfl, rfl, Inv.tobag ((some ⟨b353, 0, none⟩), 1) ⟨rfl, trivial⟩ (hI.pk [1, 2, 3, 5, 0, 10])⟩
        · refine ge hc350 (go_skip (go_seq (r_in (bg 0 [.l 0 0, .l 1 0] (gB (hI.grp 5 rfl) (hI.grp 10 rfl)) (oe 2 rfl ?_)))))
          refine e_lookup (ek := (fun x : RingSpot => .agg #[vI x.node, vB x.last_, vB x.first_])) (ev := (fun x : RingSpot => .agg #[vI x.node, vB x.last_, vB x.first_])) 94 99 99 _ _ true b7 m311 (⟨a252.node, a252.last_, a252.last_⟩ : RingSpot) rfl (by kernel_rfl) keyRingSpot (fun _ => by kernel_rfl) (by kernel_rfl) (by kernel_rfl) (hI.mapAt 6 rfl) ?_
          refine bp 3 3 (oe 6 rfl ?_)
          refine e_alloc 99 (.agg #[vI 0, vB false, vB false]) [vI 0, vB false, vB false] rfl (by kernel_rfl) rfl hI ?_
          clear hI
          intro b356 _ hI
          refine oe 7 rfl ?_
          refine e_store 99 _ _ 11 b356 99 [vI 0, vB false, vB false] [vI ((mat m311 (⟨a252.node, a252.last_, a252.last_⟩ : RingSpot)).node), vB ((mat m311 (⟨a252.node, a252.last_, a252.last_⟩ : RingSpot)).last_), vB ((mat m311 (⟨a252.node, a252.last_, a252.last_⟩ : RingSpot)).first_)] 0 (.agg #[vI ((mat m311 (⟨a252.node, a252.last_, a252.last_⟩ : RingSpot)).node), vB ((mat m311 (⟨a252.node, a252.last_, a252.last_⟩ : RingSpot)).last_), vB ((mat m311 (⟨a252.node, a252.last_, a252.last_⟩ : RingSpot)).first_)]) rfl (by kernel_rfl) (by kernel_rfl) (by kernel_rfl) (by kernel_rfl) hI rfl (by kernel_rfl) (by kernel_rfl) ?_
          clear hI
          intro _ hI
          refine bp 8 1 (ro (go_seq (rp 2 ?_)))
          replace H := cond_some H
          rcases H with ⟨hc357, H⟩ | ⟨hc357, H⟩
          · refine gt hc357 (go_seq (r_in (bg 0 [.l 0 0, .l 1 0, .p] (gB (hI.grp 5 rfl) (hI.grp 10 rfl)) (oe 3 rfl ?_))))
            refine e_mapput (ek := (fun x : RingSpot => .agg #[vI x.node, vB x.last_, vB x.first_])) (ev := (fun x : RingSpot => .agg #[vI x.node, vB x.last_, vB x.first_])) 94 99 99 _ _ _ 6 b7 m311 (⟨a252.node, a252.last_, a252.last_⟩ : RingSpot) (⟨(-1), false, false⟩ : RingSpot) rfl (by kernel_rfl) keyRingSpot (by kernel_rfl) (by kernel_rfl) (by kernel_rfl) hI rfl ?_
            clear hI
            intro _ hI
            refine ro (r_in (bg 0 [.l 0 0, .l 1 0] (gB (hI.grp 7 rfl) (hI.grp 10 rfl)) (oe 2 rfl ?_)))
            refine e_partsS 95 99 1 _ _ _ #[vI a252.node, vB a252.last_, vB a252.last_] [vI a252.node, vB a252.last_, vB a252.last_] rfl rfl rfl rfl (by kernel_rfl) (by kernel_rfl) (by kernel_rfl) (by kernel_rfl) hI ?_
            clear hI
            intro b358 _ hs359 hI
            replace H := must_some H
            obtain ⟨g360, H⟩ := H
            refine oe 3 rfl ?_
            refine e_append kRingSpot 95 0 99 _ _ _ _ A313 l312.length c314 l312 ([(⟨a252.node, a252.last_, a252.last_⟩ : RingSpot)] : List RingSpot) b358 0 1 1 [vI a252.node, vB a252.last_, vB a252.last_] 8 [] [0, 1, 2, 3, 4, 5, 6, 7, 9, 10, 11, 12] [] [objA D (.deferred (some [])), objA l (.loop { recAt rc .ready none with state := .busy }), marksA [], .blk b3 3 [vI a1], .blk b4 43 [vS none 0 0], .blk b8 94 [.map (some b7)], mapA (fun x : RingSpot => .agg #[vI x.node, vB x.last_, vB x.first_]) (fun x : RingSpot => .agg #[vI x.node, vB x.last_, vB x.first_]) b7 (mput m311 (⟨a252.node, a252.last_, a252.last_⟩ : RingSpot) (⟨(-1), false, false⟩ : RingSpot)), .blk b10 95 [vS A313 l312.length c314], T, .blk b320 99 [vI a252.node, vB a252.last_, vB a252.last_], .blk b356 99 [vI ((mat m311 (⟨a252.node, a252.last_, a252.last_⟩ : RingSpot)).node), vB ((mat m311 (⟨a252.node, a252.last_, a252.last_⟩ : RingSpot)).last_), vB ((mat m311 (⟨a252.node, a252.last_, a252.last_⟩ : RingSpot)).first_)], .blk b358 99 [vI a252.node, vB a252.last_, vB a252.last_]] rfl (by kernel_rfl) (by kernel_rfl) rfl rfl rfl rfl rfl (by kernel_rfl) hI (by decide) rfl rfl rfl (hI.grp 12 rfl) g360 (mks_cons (mk_flat (k := kRingSpot) (⟨a252.node, a252.last_, a252.last_⟩ : RingSpot) [vI a252.node, vB a252.last_, vB a252.last_] rfl) mks_nil) ?_
            clear hI
            intro A361 c362 _ hI
            have hn363 := row_some (hI.row 0 rfl) (by simp)
            replace hI := hI.pick (L' := [.row kRingSpot 99 A361 ((l312 ++ ([(⟨a252.node, a252.last_, a252.last_⟩ : RingSpot)] : List RingSpot)).length) c362 (l312 ++ ([(⟨a252.node, a252.last_, a252.last_⟩ : RingSpot)] : List RingSpot)), objA D (.deferred (some [])), objA l (.loop { recAt rc .ready none with state := .busy }), marksA [], .blk b3 3 [vI a1], .blk b4 43 [vS none 0 0], .blk b8 94 [.map (some b7)], mapA (fun x : RingSpot => .agg #[vI x.node, vB x.last_, vB x.first_]) (fun x : RingSpot => .agg #[vI x.node, vB x.last_, vB x.first_]) b7 (mput m311 (⟨a252.node, a252.last_, a252.last_⟩ : RingSpot) (⟨(-1), false, false⟩ : RingSpot)), .blk b10 95 [vS A313 l312.length c314], T, .blk b320 99 [vI a252.node, vB a252.last_, vB a252.last_], .blk b356 99 [vI ((mat m311 (⟨a252.node, a252.last_, a252.last_⟩ : RingSpot)).node), vB ((mat m311 (⟨a252.node, a252.last_, a252.last_⟩ : RingSpot)).last_), vB ((mat m311 (⟨a252.node, a252.last_, a252.last_⟩ : RingSpot)).first_)]]) [0, 1, 2, 3, 4, 5, 6, 7, 8, 9, 10, 11] (by decide) rfl
            refine oe 4 rfl ?_
            refine e_store 95 _ _ 8 b10 95 [vS A313 l312.length c314] [vS A361 ((l312 ++ ([(⟨a252.node, a252.last_, a252.last_⟩ : RingSpot)] : List RingSpot)).length) c362] 0 (vS A361 ((l312 ++ ([(⟨a252.node, a252.last_, a252.last_⟩ : RingSpot)] : List RingSpot)).length) c362) rfl (by kernel_rfl) (by kernel_rfl) (by kernel_rfl) (by kernel_rfl) hI rfl (by kernel_rfl) (by kernel_rfl) ?_
            clear hI
            intro _ hI
            refine ro (go_inBlock ?_)
            exact hJ340 (mput m311 (⟨a252.node, a252.last_, a252.last_⟩ : RingSpot) (⟨(-1), false, false⟩ : RingSpot), l312 ++ ([(⟨a252.node, a252.last_, a252.last_⟩ : RingSpot)] : List RingSpot), false) _ _ ⟨_, A361, c362, at_, hn363, hI.pick [4, 5, 6, 7, 8, 0, 1, 2, 3, 9] (by decide) rfl⟩ H
          · refine ge hc357 (go_skip (go_inBlock ?_))
            exact hJ340 (m311, l312, b315) _ _ ⟨_, A313, c314, at_, hn316, hI.pick [3, 4, 5, 6, 7, 8, 0, 1, 2, 9] (by decide) rfl⟩ H
    · cases (show (none : Option (Bool × (((List (RingSpot × RingSpot)) × List RingSpot × Bool) ⊕ Unit))) = some r from H)
  · intro rc D l w hI
    rcases o6088 with ⟨m311, l312, b315⟩ | ⟨⟩
    · obtain ⟨⟨A313, c314⟩, ⟨hn316, _⟩, hI⟩ := hI.unbag
      replace hI : Inv M241 w [objA D (.deferred (some [])), objA l (.loop (recAt rc .ready none)), marksA [], .blk b3 3 [vI a1], .blk b4 43 [vS none 0 0], .blk b8 94 [.map (some b7)], mapA (fun x : RingSpot => .agg #[vI x.node, vB x.last_, vB x.first_]) (fun x : RingSpot => .agg #[vI x.node, vB x.last_, vB x.first_]) b7 m311, .blk b10 95 [vS A313 l312.length c314], .row kRingSpot 99 A313 l312.length c314 l312] := hI
      obtain ⟨w4, hrun, hI⟩ := run_endLoop' (P := Tryd.prog) hI 1 rfl (by intro h; cases h)
      refine ⟨_, w4, hrun, go_jump0 ?_⟩
      replace hI := (hI.pick (L' := [objA D (.deferred (some [])), marksA [], .blk b3 3 [vI a1], .blk b4 43 [vS none 0 0], .blk b8 94 [.map (some b7)], mapA (fun x : RingSpot => .agg #[vI x.node, vB x.last_, vB x.first_]) (fun x : RingSpot => .agg #[vI x.node, vB x.last_, vB x.first_]) b7 m311, .blk b10 95 [vS A313 l312.length c314], .row kRingSpot 99 A313 l312.length c314 l312]) [0, 2, 3, 4, 5, 6, 7, 8] (by decide) rfl).addmark
      refine go_inBlock (go_seq (go_seq (rp 1 (go_block ?_))))
      refine go_iterM (ring_net_round.s3 a0 a1 a2) (fun (m3695, l3696, b3699, x3701) Ds3702 f w => ∃ (j : Nat → Value) (A3697 : Option Addr) (c3698 : Nat), f = updL j [(0, vP b0z 0), (2, vI a2), (4, vP b3 0), (6, vP b4 0), (7, vP b8 0), (8, vP b10 0), (12, vI x3701)] ∧ A3697.isNone = b3699 ∧ Inv M241 w [.blk b3 3 [vI a1], .blk b4 43 [vS none 0 0], .blk b8 94 [.map (some b7)], mapA (fun x : RingSpot => .agg #[vI x.node, vB x.last_, vB x.first_]) (fun x : RingSpot => .agg #[vI x.node, vB x.last_, vB x.first_]) b7 m3695, .blk b10 95 [vS A3697 l3696.length c3698], .row kRingSpot 99 A3697 l3696.length c3698 l3696, marksA Ds3702]) H ⟨_, A313, c314, at_, hn316, hI.pick [1, 2, 3, 4, 5, 6, 0] (by decide) rfl⟩ ?_
      clear H hI
      rintro ⟨m3695, l3696, b3699, x3701⟩ Ds3702 _ _ o1 H ⟨_, A3697, c3698, rfl, hn3700, hI⟩ hin1 hout1
      refine go_seq ?_
      refine go_seq_joinM (o := o1) (fun b3708 Ds3709 f w => ∃ (j : Nat → Value), f = updL j [(0, vP b0z 0), (2, vI a2), (4, vP b3 0), (6, vP b4 0), (7, vP b8 0), (8, vP b10 0), (12, vI x3701), (56, vB b3708)] ∧ Inv M241 w [.blk b3 3 [vI a1], .blk b4 43 [vS none 0 0], .blk b8 94 [.map (some b7)], mapA (fun x : RingSpot => .agg #[vI x.node, vB x.last_, vB x.first_]) (fun x : RingSpot => .agg #[vI x.node, vB x.last_, vB x.first_]) b7 m3695, .blk b10 95 [vS A3697 l3696.length c3698], .row kRingSpot 99 A3697 l3696.length c3698 l3696, marksA Ds3709]) (fun b3708 => ring_net_round.j4 a0 a1 m3695 l3696 x3701 b3708) ?_ (fun hJ3710 => ?_)
      · clear H hI
        rintro b3708 Ds3709 _ _ ⟨_, rfl, hI⟩ H
        replace H := cond_some H
        rcases H with ⟨hc3711, H⟩ | ⟨hc3711, H⟩
        · refine gt hc3711 (go_skip (go_seq (go_block (go_seq (r_in (oe 0 rfl ?_))))))
          refine e_alloc 95 (vS none 0 0) [vS none 0 0] rfl (by kernel_rfl) rfl hI ?_
          clear hI
          intro b4503 _ hI
          refine ro (go_seq (go_seq (rg [.l 0 0, .p, .p] (gA (hI.grp 4 rfl)) (go_block ?_))))
          refine go_iterM (ring_net_round.s5 a0 a1 l3696 x3701) (fun (m5563, l5564, b5567, x5569) Ds5570 f w => ∃ (j : Nat → Value) (A5565 : Option Addr) (c5566 : Nat), f = updL j [(0, vP b0z 0), (2, vI a2), (4, vP b3 0), (6, vP b4 0), (7, vP b8 0), (8, vP b10 0), (12, vI x3701), (13, vP b4503 0), (59, vS A3697 l3696.length c3698), (60, vI (l3696.length : Int)), (61, vI x5569)] ∧ A5565.isNone = b5567 ∧ Inv M241 w [.blk b3 3 [vI a1], .blk b4 43 [vS none 0 0], .blk b8 94 [.map (some b7)], mapA (fun x : RingSpot => .agg #[vI x.node, vB x.last_, vB x.first_]) (fun x : RingSpot => .agg #[vI x.node, vB x.last_, vB x.first_]) b7 m5563, .blk b10 95 [vS A3697 l3696.length c3698], .row kRingSpot 99 A3697 l3696.length c3698 l3696, .blk b4503 95 [vS A5565 l5564.length c5566], .row kRingSpot 99 A5565 l5564.length c5566 l5564, marksA Ds5570]) H ⟨_, none, 0, at_, rfl, (hI.nilrow kRingSpot 99).pick [0, 1, 2, 3, 4, 5, 7, 8, 6] (by decide) rfl⟩ ?_
          clear H hI
          rintro ⟨m5563, l5564, b5567, x5569⟩ Ds5570 _ _ o2 H ⟨_, A5565, c5566, rfl, hn5568, hI⟩ hin2 hout2
          refine go_seq (rp 1 (go_seq ?_))
          replace H := cond_some H
          rcases H with ⟨hc5572, H⟩ | ⟨hc5572, H⟩
          · refine gt hc5572 (go_skip (go_seq (go_block (go_seq (r_in ?_)))))
            replace H := must_some H
            obtain ⟨g5804, H⟩ := H
            obtain ⟨b5805, rfl⟩ := hI.rowAt 5 rfl g5804
            refine bx 0 [.x, .l 0 0] (gA ((rdS.flook (hI.row 5 rfl) (hI.rowlen 5 rfl) g5804).ok)) _ (bZ g5804) (oe 2 rfl ?_)
            refine e_alloc 99 (.agg #[vI 0, vB false, vB false]) [vI 0, vB false, vB false] rfl (by kernel_rfl) rfl hI ?_
            clear hI
            intro b5806 _ hI
            refine oe 3 rfl ?_
            refine e_store 99 _ _ 9 b5806 99 [vI 0, vB false, vB false] [vI ((idx l3696 x5569).node), vB ((idx l3696 x5569).last_), vB ((idx l3696 x5569).first_)] 0 (.agg #[vI ((idx l3696 x5569).node), vB ((idx l3696 x5569).last_), vB ((idx l3696 x5569).first_)]) rfl (by kernel_rfl) (by kernel_rfl) (by kernel_rfl) (by kernel_rfl) hI rfl (by kernel_rfl) (by kernel_rfl) ?_
            clear hI
            intro _ hI
            refine ro (go_seq (r_in (bg 0 [.p, .l 0 0, .l 1 0] (gB (hI.grp 9 rfl) (hI.grp 0 rfl)) ?_)))
            replace H := bind_some H
            obtain ⟨y5812, hy5813, H⟩ := H
            refine oe 3 rfl ?_
            refine ec (enter51 _) (ring_net_onward_calls b0z a0 A0z0 c0z0 A0z1 c0z1 (idx l3696 x5569) a1 (memOf _) _ (Inv.start _) (Lies.mono hf247 hI.fix) (hI.rd hf248) hl0z0 (hI.rd hf249) hl0z1 _ hy5813) ?_
            rintro _ _ ⟨b5814, b5815, b5816, rfl, hI'⟩
            replace hI := hI.call0 hI'
            clear hI'
            refine ⟨_, rfl, ?_⟩
            refine ro (go_block ?_)
            obtain ⟨M5923, F5924, hs5925, hb5926, ho5927, hI'⟩ := hI.lend 10 rfl
            clear hI
            have hI := hI'.pick (L' := [.blk b3 3 [vI a1], .blk b4 43 [vS none 0 0], .blk b8 94 [.map (some b7)], mapA (fun x : RingSpot => .agg #[vI x.node, vB x.last_, vB x.first_]) (fun x : RingSpot => .agg #[vI x.node, vB x.last_, vB x.first_]) b7 m5563, .blk b10 95 [vS (some ⟨b5805, 0, none⟩) l3696.length c3698], .row kRingSpot 99 (some ⟨b5805, 0, none⟩) l3696.length c3698 l3696, .blk b4503 95 [vS A5565 l5564.length c5566], .row kRingSpot 99 A5565 l5564.length c5566 l5564, marksA Ds5570, .blk b5806 99 [vI ((idx l3696 x5569).node), vB ((idx l3696 x5569).last_), vB ((idx l3696 x5569).first_)], .blk b5815 82 [vP b0z 0], .blk b5816 99 [vI ((idx l3696 x5569).node), vB ((idx l3696 x5569).last_), vB ((idx l3696 x5569).first_)]]) [0, 1, 2, 3, 4, 5, 6, 7, 8, 9, 11, 12] (by decide) rfl
            clear hI'
            have hr5928 := blkOwn.lies ho5927
            have hf5929 := Lies.mono hf247 hs5925
            have hf5930 := rdS.mono hf248 hs5925
            have hf5931 := rdS.mono hf249 hs5925
            obtain ⟨M5932, F5933, hs5934, hb5935, ho5936, hI'⟩ := hI.lend 10 rfl
            clear hI
            have hI := hI'.pick (L' := [.blk b3 3 [vI a1], .blk b4 43 [vS none 0 0], .blk b8 94 [.map (some b7)], mapA (fun x : RingSpot => .agg #[vI x.node, vB x.last_, vB x.first_]) (fun x : RingSpot => .agg #[vI x.node, vB x.last_, vB x.first_]) b7 m5563, .blk b10 95 [vS (some ⟨b5805, 0, none⟩) l3696.length c3698], .row kRingSpot 99 (some ⟨b5805, 0, none⟩) l3696.length c3698 l3696, .blk b4503 95 [vS A5565 l5564.length c5566], .row kRingSpot 99 A5565 l5564.length c5566 l5564, marksA Ds5570, .blk b5806 99 [vI ((idx l3696 x5569).node), vB ((idx l3696 x5569).last_), vB ((idx l3696 x5569).first_)], .blk b5816 99 [vI ((idx l3696 x5569).node), vB ((idx l3696 x5569).last_), vB ((idx l3696 x5569).first_)]]) [0, 1, 2, 3, 4, 5, 6, 7, 8, 9, 11] (by decide) rfl
            clear hI'
            have hr5937 := blkOwn.lies ho5936
            have hf5938 := Lies.mono hf5929 hs5934
            have hf5939 := rdS.mono hf5930 hs5934
            have hf5940 := rdS.mono hf5931 hs5934
            have hf5941 := Lies.mono hr5928 hs5934
            obtain ⟨M5942, F5943, hs5944, hb5945, ho5946, hI'⟩ := hI.lend 10 rfl
            clear hI
            have hI := hI'.pick (L' := [.blk b3 3 [vI a1], .blk b4 43 [vS none 0 0], .blk b8 94 [.map (some b7)], mapA (fun x : RingSpot => .agg #[vI x.node, vB x.last_, vB x.first_]) (fun x : RingSpot => .agg #[vI x.node, vB x.last_, vB x.first_]) b7 m5563, .blk b10 95 [vS (some ⟨b5805, 0, none⟩) l3696.length c3698], .row kRingSpot 99 (some ⟨b5805, 0, none⟩) l3696.length c3698 l3696, .blk b4503 95 [vS A5565 l5564.length c5566], .row kRingSpot 99 A5565 l5564.length c5566 l5564, marksA Ds5570, .blk b5806 99 [vI ((idx l3696 x5569).node), vB ((idx l3696 x5569).last_), vB ((idx l3696 x5569).first_)]]) [0, 1, 2, 3, 4, 5, 6, 7, 8, 9] (by decide) rfl
            clear hI'
            have hr5947 := blkOwn.lies ho5946
            have hf5948 := Lies.mono hf5938 hs5944
            have hf5949 := rdS.mono hf5939 hs5944
            have hf5950 := rdS.mono hf5940 hs5944
            have hf5951 := Lies.mono hf5941 hs5944
            have hf5952 := Lies.mono hr5937 hs5944
            replace H := bind_some H
            obtain ⟨o6085, ho6086, H⟩ := H
            refine go_over (ω := ((List (RingSpot × RingSpot)) × List RingSpot × Bool) ⊕ (List Int × Bool)) (α := RingSpot) 54 #[] #[vP b5814 0, vP b5815 0, vP b5816 0] (fun a : RingSpot => #[.agg #[vI a.node, vB a.last_, vB a.first_]]) (fun a : RingSpot => [(69, .agg #[vI a.node, vB a.last_, vB a.first_])]) (fun rc D l => fun | .inl ((m6018, l6019, b6022)) => bagx (fun ((A6020, c6021) : Option Addr × Nat) => A6020.isNone = b6022 ∧ True) (fun ((A6020, c6021) : Option Addr × Nat) => [objA D (.deferred (some [])), objA l (.loop (recAt rc .ready none)), marksA Ds5570, .blk b3 3 [vI a1], .blk b4 43 [vS none 0 0], .blk b8 94 [.map (some b7)], mapA (fun x : RingSpot => .agg #[vI x.node, vB x.last_, vB x.first_]) (fun x : RingSpot => .agg #[vI x.node, vB x.last_, vB x.first_]) b7 m6018, .blk b10 95 [vS (some ⟨b5805, 0, none⟩) l3696.length c3698], .row kRingSpot 99 (some ⟨b5805, 0, none⟩) l3696.length c3698 l3696, .blk b4503 95 [vS A6020 l6019.length c6021], .row kRingSpot 99 A6020 l6019.length c6021 l6019, .blk b5806 99 [vI ((idx l3696 x5569).node), vB ((idx l3696 x5569).last_), vB ((idx l3696 x5569).first_)]]) | .inr ((l6024, b6027)) => bagx (fun ((A6025, c6026) : Option Addr × Nat) => A6025.isNone = b6027 ∧ True) (fun ((A6025, c6026) : Option Addr × Nat) => [objA D (.deferred (some [])), objA l (.loop (recAt rc .done (some .ret))), marksA Ds5570, .blk b4 43 [vS A6025 l6024.length c6026], .row (tInt .i64) 3 A6025 l6024.length c6026 l6024])) (ring_net_round.y6 a1 l3696 x5569) (.inl (m5563, l5564, b5567)) o6085 rfl (by kernel_rfl) enter54 (fun _ => by simp) (fun _ => rfl) hI ?_ ?_ ?_ ?_
            · intro rc D l w hI
              exact Inv.tobag (A5565, c5566) ⟨hn5568, trivial⟩ (hI.pk [0, 1, 10, 2, 3, 4, 5, 6, 7, 8, 9, 11])
            · intro rc D l w hI hY
              exact ring_net_onward_1zcalls l _ (ring_net_round.y6 a1 l3696 x5569) (.inl (m5563, l5564, b5567)) b5814 a1 b5815 a0 b0z A0z0 c0z0 A0z1 c0z1 b5816 (idx l3696 x5569) M5942 w hI hY hf5951 hf5952 hf5948 hf5949 hl0z0 hf5950 hl0z1 hr5947 _ ho6086
            · rintro rc D l (⟨m6018, l6019, b6022⟩ | _) a5953 r w T H hI
              · obtain ⟨⟨A6020, c6021⟩, ⟨hn6023, _⟩, hI⟩ := hI.unbag
                replace hI : Inv M5942 w [objA D (.deferred (some [])), objA l (.loop (recAt rc .ready none)), marksA Ds5570, .blk b3 3 [vI a1], .blk b4 43 [vS none 0 0], .blk b8 94 [.map (some b7)], mapA (fun x : RingSpot => .agg #[vI x.node, vB x.last_, vB x.first_]) (fun x : RingSpot => .agg #[vI x.node, vB x.last_, vB x.first_]) b7 m6018, .blk b10 95 [vS (some ⟨b5805, 0, none⟩) l3696.length c3698], .row kRingSpot 99 (some ⟨b5805, 0, none⟩) l3696.length c3698 l3696, .blk b4503 95 [vS A6020 l6019.length c6021], .row kRingSpot 99 A6020 l6019.length c6021 l6019, .blk b5806 99 [vI ((idx l3696 x5569).node), vB ((idx l3696 x5569).last_), vB ((idx l3696 x5569).first_)], T] := hI
                refine ⟨⟨_, _, _, hI.objAt 1 rfl, rfl⟩, fun c cs => ?_⟩
                refine r_in (oe 0 rfl ?_)
                refine e_alloc 99 (.agg #[vI 0, vB false, vB false]) [vI 0, vB false, vB false] rfl (by kernel_rfl) rfl hI ?_
                clear hI
                intro b6029 _ hI
                refine oe 1 rfl ?_
                refine e_store 99 _ _ 13 b6029 99 [vI 0, vB false, vB false] [vI a5953.node, vB a5953.last_, vB a5953.first_] 0 (.agg #[vI a5953.node, vB a5953.last_, vB a5953.first_]) rfl (by kernel_rfl) (by kernel_rfl) (by kernel_rfl) (by kernel_rfl) hI rfl (by kernel_rfl) (by kernel_rfl) ?_
                clear hI
                intro _ hI
                refine ro ?_
                refine go_begin rfl hI 1 rfl rfl ?_
                clear hI
                intro w hI
                refine go_block_join (o := r) (fun (m6046, l6047, b6050) f w => ∃ (j : Nat → Value) (A6048 : Option Addr) (c6049 : Nat), f = updL j [] ∧ A6048.isNone = b6050 ∧ Inv M5942 w [.blk b3 3 [vI a1], .blk b4 43 [vS none 0 0], .blk b8 94 [.map (some b7)], mapA (fun x : RingSpot => .agg #[vI x.node, vB x.last_, vB x.first_]) (fun x : RingSpot => .agg #[vI x.node, vB x.last_, vB x.first_]) b7 m6046, .blk b10 95 [vS (some ⟨b5805, 0, none⟩) l3696.length c3698], .row kRingSpot 99 (some ⟨b5805, 0, none⟩) l3696.length c3698 l3696, .blk b4503 95 [vS A6048 l6047.length c6049], .row kRingSpot 99 A6048 l6047.length c6049 l6047, .blk b5806 99 [vI ((idx l3696 x5569).node), vB ((idx l3696 x5569).last_), vB ((idx l3696 x5569).first_)], objA D (.deferred (some [])), objA l (.loop { recAt rc .ready none with state := .busy }), marksA Ds5570, T]) (fun (m6046, l6047, b6050) => ring_net_round.j7 m6046 l6047 b6050) ?_ (fun hJ6052 => ?_)
                · clear H hI
                  rintro ⟨m6046, l6047, b6050⟩ _ _ ⟨_, A6048, c6049, rfl, hn6051, hI⟩ H
                  replace H := Option.some.inj H
                  subst H
                  refine go_round_end rfl rfl hI 10 rfl ?_
                  clear hI
                  intro w hI
                  exact ⟨_, rfl, rfl, Inv.tobag (A6048, c6049) ⟨hn6051, trivial⟩ (hI.pk [9, 10, 11, 0, 1, 2, 3, 4, 5, 6, 7, 8, 12])⟩
                · refine go_seq (go_seq (r_in (bg 0 [.l 0 0, .l 1 0] (gB (hI.grp 13 rfl) (hI.grp 3 rfl)) ?_)))
                  replace H := bind_some H
                  obtain ⟨y6063, hy6064, H⟩ := H
                  refine oe 2 rfl ?_
                  refine ec (enter52 _) (ring_home_calls a5953 a1 (memOf _) _ (Inv.start _) _ hy6064) ?_
                  rintro _ _ ⟨rfl, hI'⟩
                  replace hI := hI.call0 hI'
                  clear hI'
                  refine ⟨_, rfl, ?_⟩
                  refine ro ?_
                  replace H := cond_some H
                  rcases H with ⟨hc6065, H⟩ | ⟨hc6065, H⟩
                  · refine gt hc6065 (go_seq (r_in (bg 0 [.l 0 0, .l 1 0, .l 2 0] (gC (hI.grp 5 rfl) (hI.grp 11 rfl) (hI.grp 3 rfl)) ?_)))
                    replace H := bind_some H
                    obtain ⟨y6071, hy6072, H⟩ := H
                    refine oe 3 rfl ?_
                    refine ec (enter53 _) (ring_trail_calls b7 m6018 (idx l3696 x5569) a1 (memOf _) _ (Inv.start _) (hI.mapAt 6 rfl) _ hy6072) ?_
                    rintro _ _ ⟨A6073, c6074, rfl, hn6075, hI'⟩
                    replace hI := hI.call0 hI'
                    clear hI'
                    refine ⟨_, rfl, ?_⟩
                    refine oe 4 rfl ?_
                    refine e_store 43 _ _ 4 b4 43 [vS none 0 0] [vS A6073 y6071.1.length c6074] 0 (vS A6073 y6071.1.length c6074) rfl (by kernel_rfl) (by kernel_rfl) (by kernel_rfl) (by kernel_rfl) hI rfl (by kernel_rfl) (by kernel_rfl) ?_
                    clear hI
                    intro _ hI
                    refine ro ?_
                    replace H := Option.some.inj H
                    subst H
                    refine go_round_ret rfl rfl hI 1 rfl ?_
                    clear hI
                    intro w hI
                    exact ⟨_, rfl, rfl, Inv.tobag (A6073, c6074) ⟨hn6075, trivial⟩ (hI.pk [0, 1, 2, 4, 14, 12])⟩
                  · refine ge hc6065 (go_skip (go_seq (r_in (bg 0 [.l 0 0, .l 1 0] (gB (hI.grp 5 rfl) (hI.grp 13 rfl)) (oe 2 rfl ?_)))))
                    refine e_lookup (ek := (fun x : RingSpot => .agg #[vI x.node, vB x.last_, vB x.first_])) (ev := (fun x : RingSpot => .agg #[vI x.node, vB x.last_, vB x.first_])) 94 99 99 _ _ true b7 m6018 a5953 rfl (by kernel_rfl) keyRingSpot (fun _ => by kernel_rfl) (by kernel_rfl) (by kernel_rfl) (hI.mapAt 6 rfl) ?_
                    refine bp 3 3 (oe 6 rfl ?_)
                    refine e_alloc 99 (.agg #[vI 0, vB false, vB false]) [vI 0, vB false, vB false] rfl (by kernel_rfl) rfl hI ?_
                    clear hI
                    intro b6077 _ hI
                    refine oe 7 rfl ?_
                    refine e_store 99 _ _ 14 b6077 99 [vI 0, vB false, vB false] [vI ((mat m6018 a5953).node), vB ((mat m6018 a5953).last_), vB ((mat m6018 a5953).first_)] 0 (.agg #[vI ((mat m6018 a5953).node), vB ((mat m6018 a5953).last_), vB ((mat m6018 a5953).first_)]) rfl (by kernel_rfl) (by kernel_rfl) (by kernel_rfl) (by kernel_rfl) hI rfl (by kernel_rfl) (by kernel_rfl) ?_
                    clear hI
                    intro _ hI
                    refine bp 8 1 (ro (go_seq (rp 2 ?_)))
                    replace H := cond_some H
                    rcases H with ⟨hc6078, H⟩ | ⟨hc6078, H⟩
                    · refine gt hc6078 (go_seq (r_in (bg 0 [.l 0 0, .l 1 0, .l 2 0] (gC (hI.grp 5 rfl) (hI.grp 13 rfl) (hI.grp 11 rfl)) (oe 3 rfl ?_))))
                      refine e_mapput (ek := (fun x : RingSpot => .agg #[vI x.node, vB x.last_, vB x.first_])) (ev := (fun x : RingSpot => .agg #[vI x.node, vB x.last_, vB x.first_])) 94 99 99 _ _ _ 6 b7 m6018 a5953 (idx l3696 x5569) rfl (by kernel_rfl) keyRingSpot (by kernel_rfl) (by kernel_rfl) (by kernel_rfl) hI rfl ?_
                      clear hI
                      intro _ hI
                      refine ro (r_in (bg 0 [.l 0 0, .l 1 0] (gB (hI.grp 9 rfl) (hI.grp 13 rfl)) (oe 2 rfl ?_)))
                      refine e_partsS 95 99 1 _ _ _ #[vI a5953.node, vB a5953.last_, vB a5953.first_] [vI a5953.node, vB a5953.last_, vB a5953.first_] rfl rfl rfl rfl (by kernel_rfl) (by kernel_rfl) (by kernel_rfl) (by kernel_rfl) hI ?_
                      clear hI
                      intro b6079 _ hs6080 hI
                      replace H := must_some H
                      obtain ⟨g6081, H⟩ := H
                      refine oe 3 rfl ?_
                      refine e_append kRingSpot 95 0 99 _ _ _ _ A6020 l6019.length c6021 l6019 ([a5953] : List RingSpot) b6079 0 1 1 [vI a5953.node, vB a5953.last_, vB a5953.first_] 10 [] [0, 1, 2, 3, 4, 5, 6, 7, 8, 9, 11, 12, 13, 14, 15] [] [objA D (.deferred (some [])), objA l (.loop { recAt rc .ready none with state := .busy }), marksA Ds5570, .blk b3 3 [vI a1], .blk b4 43 [vS none 0 0], .blk b8 94 [.map (some b7)], mapA (fun x : RingSpot => .agg #[vI x.node, vB x.last_, vB x.first_]) (fun x : RingSpot => .agg #[vI x.node, vB x.last_, vB x.first_]) b7 (mput m6018 a5953 (idx l3696 x5569)), .blk b10 95 [vS (some ⟨b5805, 0, none⟩) l3696.length c3698], .row kRingSpot 99 (some ⟨b5805, 0, none⟩) l3696.length c3698 l3696, .blk b4503 95 [vS A6020 l6019.length c6021], .blk b5806 99 [vI ((idx l3696 x5569).node), vB ((idx l3696 x5569).last_), vB ((idx l3696 x5569).first_)], T, .blk b6029 99 [vI a5953.node, vB a5953.last_, vB a5953.first_], .blk b6077 99 [vI ((mat m6018 a5953).node), vB ((mat m6018 a5953).last_), vB ((mat m6018 a5953).first_)], .blk b6079 99 [vI a5953.node, vB a5953.last_, vB a5953.first_]] rfl (by kernel_rfl) (by kernel_rfl) rfl rfl rfl rfl rfl (by kernel_rfl) hI (by decide) rfl rfl rfl (hI.grp 15 rfl) g6081 (mks_cons (mk_flat (k := kRingSpot) a5953 [vI a5953.node, vB a5953.last_, vB a5953.first_] rfl) mks_nil) ?_
                      clear hI
                      intro A6082 c6083 _ hI
                      have hn6084 := row_some (hI.row 0 rfl) (by simp)
                      replace hI := hI.pick (L' := [.row kRingSpot 99 A6082 ((l6019 ++ ([a5953] : List RingSpot)).length) c6083 (l6019 ++ ([a5953] : List RingSpot)), objA D (.deferred (some [])), objA l (.loop { recAt rc .ready none with state := .busy }), marksA Ds5570, .blk b3 3 [vI a1], .blk b4 43 [vS none 0 0], .blk b8 94 [.map (some b7)], mapA (fun x : RingSpot => .agg #[vI x.node, vB x.last_, vB x.first_]) (fun x : RingSpot => .agg #[vI x.node, vB x.last_, vB x.first_]) b7 (mput m6018 a5953 (idx l3696 x5569)), .blk b10 95 [vS (some ⟨b5805, 0, none⟩) l3696.length c3698], .row kRingSpot 99 (some ⟨b5805, 0, none⟩) l3696.length c3698 l3696, .blk b4503 95 [vS A6020 l6019.length c6021], .blk b5806 99 [vI ((idx l3696 x5569).node), vB ((idx l3696 x5569).last_), vB ((idx l3696 x5569).first_)], T, .blk b6029 99 [vI a5953.node, vB a5953.last_, vB a5953.first_], .blk b6077 99 [vI ((mat m6018 a5953).node), vB ((mat m6018 a5953).last_), vB ((mat m6018 a5953).first_)]]) [0, 1, 2, 3, 4, 5, 6, 7, 8, 9, 10, 11, 12, 13, 14] (by decide) rfl
                      refine oe 4 rfl ?_
                      refine e_store 95 _ _ 10 b4503 95 [vS A6020 l6019.length c6021] [vS A6082 ((l6019 ++ ([a5953] : List RingSpot)).length) c6083] 0 (vS A6082 ((l6019 ++ ([a5953] : List RingSpot)).length) c6083) rfl (by kernel_rfl) (by kernel_rfl) (by kernel_rfl) (by kernel_rfl) hI rfl (by kernel_rfl) (by kernel_rfl) ?_
                      clear hI
                      intro _ hI
                      refine ro (go_inBlock ?_)
                      exact hJ6052 (mput m6018 a5953 (idx l3696 x5569), l6019 ++ ([a5953] : List RingSpot), false) _ _ ⟨_, A6082, c6083, at_, hn6084, hI.pick [4, 5, 6, 7, 8, 9, 10, 0, 11, 1, 2, 3, 12] (by decide) rfl⟩ H
                    · refine ge hc6078 (go_skip (go_inBlock ?_))
                      exact hJ6052 (m6018, l6019, b6022) _ _ ⟨_, A6020, c6021, at_, hn6023, hI.pick [3, 4, 5, 6, 7, 8, 9, 10, 11, 0, 1, 2, 12] (by decide) rfl⟩ H
              · cases (show (none : Option (Bool × (((List (RingSpot × RingSpot)) × List RingSpot × Bool) ⊕ (List Int × Bool)))) = some r from H)
            · intro rc D l w hI
              rcases o6085 with ⟨m6018, l6019, b6022⟩ | ⟨l6024, b6027⟩
              · obtain ⟨⟨A6020, c6021⟩, ⟨hn6023, _⟩, hI⟩ := hI.unbag
                replace hI : Inv M5942 w [objA D (.deferred (some [])), objA l (.loop (recAt rc .ready none)), marksA Ds5570, .blk b3 3 [vI a1], .blk b4 43 [vS none 0 0], .blk b8 94 [.map (some b7)], mapA (fun x : RingSpot => .agg #[vI x.node, vB x.last_, vB x.first_]) (fun x : RingSpot => .agg #[vI x.node, vB x.last_, vB x.first_]) b7 m6018, .blk b10 95 [vS (some ⟨b5805, 0, none⟩) l3696.length c3698], .row kRingSpot 99 (some ⟨b5805, 0, none⟩) l3696.length c3698 l3696, .blk b4503 95 [vS A6020 l6019.length c6021], .row kRingSpot 99 A6020 l6019.length c6021 l6019, .blk b5806 99 [vI ((idx l3696 x5569).node), vB ((idx l3696 x5569).last_), vB ((idx l3696 x5569).first_)]] := hI
                obtain ⟨w4, hrun, hI⟩ := run_endLoop' (P := Tryd.prog) hI 1 rfl (by intro h; cases h)
                refine ⟨_, w4, hrun, go_jump0 ?_⟩
                replace hI := (hI.pick (L' := [objA D (.deferred (some [])), marksA Ds5570, .blk b3 3 [vI a1], .blk b4 43 [vS none 0 0], .blk b8 94 [.map (some b7)], mapA (fun x : RingSpot => .agg #[vI x.node, vB x.last_, vB x.first_]) (fun x : RingSpot => .agg #[vI x.node, vB x.last_, vB x.first_]) b7 m6018, .blk b10 95 [vS (some ⟨b5805, 0, none⟩) l3696.length c3698], .row kRingSpot 99 (some ⟨b5805, 0, none⟩) l3696.length c3698 l3696, .blk b4503 95 [vS A6020 l6019.length c6021], .row kRingSpot 99 A6020 l6019.length c6021 l6019, .blk b5806 99 [vI ((idx l3696 x5569).node), vB ((idx l3696 x5569).last_), vB ((idx l3696 x5569).first_)]]) [0, 2, 3, 4, 5, 6, 7, 8, 9, 10, 11] (by decide) rfl).addmark
                refine go_inBlock (go_inBlock (rp 2 ?_))
                exact hin2 _ (Option.some.inj H).symm _ _ _ ⟨_, A6020, c6021, at_, hn6023, (Inv.tail (hb5926 _ _ (Inv.tail (hb5935 _ _ (Inv.tail (hb5945 _ _ hI)))))).pick [1, 2, 3, 4, 5, 6, 7, 8, 0] (by decide) rfl⟩
              · obtain ⟨⟨A6025, c6026⟩, ⟨hn6028, _⟩, hI⟩ := hI.unbag
                replace hI : Inv M5942 w [objA D (.deferred (some [])), objA l (.loop (recAt rc .done (some .ret))), marksA Ds5570, .blk b4 43 [vS A6025 l6024.length c6026], .row (tInt .i64) 3 A6025 l6024.length c6026 l6024] := hI
                obtain ⟨w4, hrun, hI⟩ := run_endLoop' (P := Tryd.prog) hI 1 rfl (by intro h; cases h)
                refine ⟨_, w4, hrun, go_jump1 ?_⟩
                replace hI := (hI.pick (L' := [objA D (.deferred (some [])), marksA Ds5570, .blk b4 43 [vS A6025 l6024.length c6026], .row (tInt .i64) 3 A6025 l6024.length c6026 l6024]) [0, 2, 3, 4] (by decide) rfl).addmark
                replace H := out_some H
                obtain ⟨_, H, he2⟩ := H
                have he := (hout2 _ he2).symm
                subst he
                replace H := out_some H
                obtain ⟨_, H, he1⟩ := H
                have he := (hout1 _ he1).symm
                subst he
                replace H := Option.some.inj H
                subst H
                refine go_ret_marks rfl (L := [.blk b4 43 [vS A6025 l6024.length c6026], .row (tInt .i64) 3 A6025 l6024.length c6026 l6024]) (hI.pk [0, 1, 2]) Tryd.func49 ?_
                clear hI
                intro w hI
                exact ⟨_, run_results (G := [(b4, 0, [vS A6025 l6024.length c6026])]) [.c 0] [vS A6025 l6024.length c6026] (vS A6025 l6024.length c6026) ⟨(hI.grp 0 rfl), trivial⟩ (by kernel_rfl) (by kernel_rfl) (by kernel_rfl) (by kernel_rfl), ⟨A6025, c6026, rfl, hn6028, Inv.tail (hb225 _ _ (Inv.tail (hb234 _ _ (Inv.tail (hb244 _ _ (Inv.tail (hb5926 _ _ (Inv.tail (hb5935 _ _ (Inv.tail (hb5945 _ _ (hI.pk [1]))))))))))))⟩⟩
          · refine ge hc5572 ?_
            refine go_exit rfl ?_
            refine r_in (bg 0 [.l 0 0] (gA (hI.grp 6 rfl)) (oe 1 rfl ?_))
            refine e_store 95 _ _ 4 b10 95 [vS A3697 l3696.length c3698] [vS A5565 l5564.length c5566] 0 (vS A5565 l5564.length c5566) rfl (by kernel_rfl) (by kernel_rfl) (by kernel_rfl) (by kernel_rfl) hI rfl (by kernel_rfl) (by kernel_rfl) ?_
            clear hI
            intro _ hI
            refine ro (go_inBlock (rp 3 ?_))
            replace H := out_some H
            obtain ⟨_, H, he2⟩ := H
            have he := (hout2 _ he2).symm
            subst he
            exact hin1 _ (Option.some.inj H).symm _ _ _ ⟨_, A5565, c5566, at_, hn5568, hI.pick [0, 1, 2, 3, 4, 7, 8] (by decide) rfl⟩
        · refine ge hc3711 ?_
          refine go_exit rfl ?_
          refine go_seq (r_in (oe 0 rfl ?_))
          refine e_store 43 _ _ 1 b4 43 [vS none 0 0] [vS none 0 0] 0 (vS none 0 0) rfl (by kernel_rfl) (by kernel_rfl) (by kernel_rfl) (by kernel_rfl) hI rfl (by kernel_rfl) (by kernel_rfl) ?_
          clear hI
          intro _ hI
          refine ro ?_
          replace H := out_some H
          obtain ⟨_, H, he1⟩ := H
          have he := (hout1 _ he1).symm
          subst he
          replace H := Option.some.inj H
          subst H
          refine go_ret_marks rfl (L := [.blk b3 3 [vI a1], .blk b4 43 [vS none 0 0], .blk b8 94 [.map (some b7)], mapA (fun x : RingSpot => .agg #[vI x.node, vB x.last_, vB x.first_]) (fun x : RingSpot => .agg #[vI x.node, vB x.last_, vB x.first_]) b7 m3695, .blk b10 95 [vS A3697 l3696.length c3698], .row kRingSpot 99 A3697 l3696.length c3698 l3696, .row (tInt .i64) 3 none 0 0 ([] : List Int)]) ((hI.nilrow (tInt .i64) 3).pick [6, 0, 1, 2, 3, 4, 5, 7] (by decide) rfl) Tryd.func49 ?_
          clear hI
          intro w hI
          exact ⟨_, run_results (G := [(b4, 0, [vS none 0 0])]) [.c 0] [vS none 0 0] (vS none 0 0) ⟨(hI.grp 1 rfl), trivial⟩ (by kernel_rfl) (by kernel_rfl) (by kernel_rfl) (by kernel_rfl), ⟨none, 0, rfl, rfl, Inv.tail (hb225 _ _ (Inv.tail (hb234 _ _ (Inv.tail (hb244 _ _ (hI.pk [6]))))))⟩⟩
      · refine r_in ?_
        replace H := cond_some H
        rcases H with ⟨hc6087, H⟩ | ⟨hc6087, H⟩
        · refine bx 0 [.p, .p, .p, .c true, .l 0 0, .p, .p, .p] (gA (hI.grp 4 rfl)) _ (bZ (bndEq hc6087)) (ro ?_)
          exact hJ3710 (decide ((l3696.length : Int) > 0)) _ _ _ ⟨_, at_, hI⟩ H
        · refine bx 0 [.p, .p, .p, .c false, .p, .p, .p, .p] gO _ (bZ (bndEq hc6087)) (ro ?_)
          exact hJ3710 false _ _ _ ⟨_, at_, hI⟩ H
    · obtain ⟨⟨A317, c318⟩, ⟨hn319, _⟩, hI⟩ := hI.unbag
      replace hI : Inv M241 w [objA D (.deferred (some [])), objA l (.loop (recAt rc .done (some .ret))), marksA [], .blk b4 43 [vS A317 (([a1] : List Int).length) c318], .row (tInt .i64) 3 A317 (([a1] : List Int).length) c318 ([a1] : List Int)] := hI
      obtain ⟨w4, hrun, hI⟩ := run_endLoop' (P := Tryd.prog) hI 1 rfl (by intro h; cases h)
      refine ⟨_, w4, hrun, go_jump1 ?_⟩
      replace hI := (hI.pick (L' := [objA D (.deferred (some [])), marksA [], .blk b4 43 [vS A317 (([a1] : List Int).length) c318], .row (tInt .i64) 3 A317 (([a1] : List Int).length) c318 ([a1] : List Int)]) [0, 2, 3, 4] (by decide) rfl).addmark
      replace H := Option.some.inj H
      subst H
      refine go_ret_marks rfl (L := [.blk b4 43 [vS A317 (([a1] : List Int).length) c318], .row (tInt .i64) 3 A317 (([a1] : List Int).length) c318 ([a1] : List Int)]) (hI.pk [0, 1, 2]) Tryd.func49 ?_
      clear hI
      intro w hI
      exact ⟨_, run_results (G := [(b4, 0, [vS A317 (([a1] : List Int).length) c318])]) [.c 0] [vS A317 (([a1] : List Int).length) c318] (vS A317 (([a1] : List Int).length) c318) ⟨(hI.grp 0 rfl), trivial⟩ (by kernel_rfl) (by kernel_rfl) (by kernel_rfl) (by kernel_rfl), ⟨A317, c318, rfl, hn319, Inv.tail (hb225 _ _ (Inv.tail (hb234 _ _ (Inv.tail (hb244 _ _ (hI.pk [1]))))))⟩⟩

/-! ### ring_Spaced_1 -/
theorem enter50 (a : Array Value) : Sem.pureRun Tryd.prog (callFunc 50 a) = some (.enter 50 a) := by kernel_rfl
theorem ring_Spaced_1zcalls (a0 : RingLink) (a1 : Int) (M : Mem) (w : World) (hI : Inv M w []) (r : Int) (H : ring_Spaced_1 a0 a1 = some r) :
    Calls Tryd.prog 50 #[.agg #[vI a0.tight, vI a0.loose], vI a1] w fun e w' => e = .returned (vI r) ∧ Inv M w' [] := by
  refine cg Tryd.func50 ?_
  intro cs
  unfold ring_Spaced_1 at H
  refine go_seq (r_in (oe 0 rfl ?_))
  refine e_box 85 _ (.agg #[vI a0.tight, vI a0.loose]) [vI a0.tight, vI a0.loose] rfl (by kernel_rfl) rfl hI ?_
  clear hI
  intro b2 _ hI
  refine bp 1 1 (ro (go_seq (go_seq (rg [.p, .l 0 0, .p] (gA (hI.grp 0 rfl)) ?_))))
  replace H := cond_some H
  rcases H with ⟨hc4, H⟩ | ⟨hc4, H⟩
  · refine gt hc4 (go_seq (rg [.p, .l 0 0, .p] (gA (hI.grp 0 rfl)) ?_))
    replace H := Option.some.inj H
    subst H
    exact gr Tryd.func50 ⟨rfl, hI.pn⟩
  · refine ge hc4 (go_skip (go_seq (rg [.p, .l 0 1, .p] (gA (hI.grp 0 rfl)) ?_)))
    replace H := Option.some.inj H
    subst H
    exact gr Tryd.func50 ⟨rfl, hI.pn⟩

/-! ### ring_net_edges_ring_Spaced_1 -/
theorem enter47 (a : Array Value) : Sem.pureRun Tryd.prog (callFunc 47 a) = some (.enter 47 a) := by kernel_rfl
theorem ring_net_edges_ring_Spaced_1zcalls (b0z : Nat) (a0 : RingNet) (A0z0 : Option Addr) (c0z0 : Nat) (A0z1 : Option Addr) (c0z1 : Nat) (A1z : Option Addr) (c1z : Nat) (a1 : List Int) (M : Mem) (w : World) (hI : Inv M w []) (hb0z : Lies M.blk (b0z, 0, [vI a0.g.N, vS A0z0 a0.g.Edges.length c0z0, vS A0z1 a0.links.length c0z1])) (hr0z0 : rdS kEdge M.blk A0z0 a0.g.Edges) (hl0z0 : a0.g.Edges.length ≤ c0z0) (hr0z1 : rdS (tSlice 85 kRingLink) M.blk A0z1 a0.links) (hl0z1 : a0.links.length ≤ c0z1) (hr1z : rdS (tInt .i64) M.blk A1z a1) (hl1z : a1.length ≤ c1z) (r : List Edge) (H : ring_net_edges_ring_Spaced_1 a0 a1 = some r) :
    Calls Tryd.prog 47 #[vP b0z 0, vS A1z a1.length c1z, .func (.func 50) #[] #[]] w fun e w' => ∃ (A422 : Option Addr), ∃ (c423 : Nat), e = .returned (vS A422 r.length c423) ∧ Inv M w' [.row kEdge 40 A422 r.length c423 r] := by
  refine cg Tryd.func47 ?_
  intro cs
  unfold ring_net_edges_ring_Spaced_1 at H
  refine go_seq (rp 1 (go_seq (rp 1 (go_seq (go_seq (rp 3 (go_block ?_)))))))
  refine go_iter (ring_net_edges_ring_Spaced_1.s1 a0 a1) (fun (l309, x312) f w => ∃ (j : Nat → Value) (A310 : Option Addr) (c311 : Nat), f = updL j [(0, vP b0z 0), (1, vS A1z a1.length c1z), (2, .func (.func 50) #[] #[]), (7, vS A310 l309.length c311), (11, vS A1z a1.length c1z), (12, vI (a1.length : Int)), (13, vI x312)] ∧ Inv M w [.row kEdge 40 A310 l309.length c311 l309]) H ⟨_, none, 0, at_, (hI.nilrow kEdge 40)⟩ ?_
  clear H hI
  rintro ⟨l309, x312⟩ _ _ o1 H ⟨_, A310, c311, rfl, hI⟩ hin1 hout1
  refine go_seq (rp 1 (go_seq ?_))
  replace H := cond_some H
  rcases H with ⟨hc314, H⟩ | ⟨hc314, H⟩
  · refine gt hc314 (go_skip (go_seq (go_block (go_seq (r_in ?_)))))
    replace H := must_some H
    obtain ⟨g376, H⟩ := H
    obtain ⟨b377, q378, rfl, _⟩ := rdS.fopen hr1z rfl g376
    refine bx 0 [.p, .x, .l 0 0, .p, .p] (gA (hI.lies (rdS.flook hr1z rfl g376))) _ (bZ g376) (ro (go_seq ?_))
    replace H := must_some H
    obtain ⟨g395, H⟩ := H
    obtain ⟨b399, q400, rfl, cs398, hk397, hg396⟩ := rdS.open hr0z1 rfl g395
    obtain ⟨A401, c402, rfl, hl404, hr403⟩ := hk397
    replace H := must_some H
    obtain ⟨g405, H⟩ := H
    replace H := must_some H
    obtain ⟨g406, H⟩ := H
    replace H := must_some H
    obtain ⟨g407, H⟩ := H
    obtain ⟨b408, q409, rfl, _⟩ := rdS.fopen hr403 rfl g407
    refine go_held (fun w => Inv M w [.row kEdge 40 A310 l309.length c311 l309]) (by kernel_rfl) ?_
    replace hI := hI.drew'
    refine hx (n := 2) [(0, .p), (1, .p), (2, .p), (3, .l 0 2), (4, .p), (5, .x), (6, .l 1 0), (7, .p), (8, .p), (9, .p), (10, .p), (11, .p), (12, .x), (13, .x), (14, .l 2 0), (15, .x), (16, .l 3 0)] (fun _ hS => (gD (hS.lies hb0z) (hS.lies hg396) (hS.lies (rdS.flook hr1z rfl g406)) (hS.lies (rdS.flook hr403 rfl g407)))) hI _ (bC g395 (bC (ndEq g405) (bC g406 (bZ g407)))) ?_
    refine ho (n := 1) 17 rfl (e_alloc 85 (.agg #[vI 0, vI 0]) [vI 0, vI 0] rfl (by kernel_rfl) rfl hI ?_)
    clear hI
    intro b410 _ hI
    refine ⟨(hI.pk [0]), ?_⟩
    refine ho (n := 0) 18 rfl (e_store 85 _ _ 1 b410 85 [vI 0, vI 0] [vI ((idx (idx a0.links (idx a1 x312)) (idx a1 ((w64 (x312 + 1)).tmod (a1.length : Int)))).tight), vI ((idx (idx a0.links (idx a1 x312)) (idx a1 ((w64 (x312 + 1)).tmod (a1.length : Int)))).loose)] 0 (.agg #[vI ((idx (idx a0.links (idx a1 x312)) (idx a1 ((w64 (x312 + 1)).tmod (a1.length : Int)))).tight), vI ((idx (idx a0.links (idx a1 x312)) (idx a1 ((w64 (x312 + 1)).tmod (a1.length : Int)))).loose)]) rfl (by kernel_rfl) (by kernel_rfl) (by kernel_rfl) (by kernel_rfl) hI rfl (by kernel_rfl) (by kernel_rfl) ?_)
    clear hI
    intro _ hI
    refine ⟨(hI.pk [0]), ?_⟩
    refine hd ?_
    replace H := bind_some H
    obtain ⟨y411, hy412, H⟩ := H
    replace H := must_some H
    obtain ⟨g413, H⟩ := H
    obtain ⟨b414, q415, rfl, _⟩ := rdS.fopen hr0z0 rfl g413
    replace H := must_some H
    obtain ⟨g418, H⟩ := H
    refine go_held (fun w => Inv M w [.blk b410 85 [vI ((idx (idx a0.links (idx a1 x312)) (idx a1 ((w64 (x312 + 1)).tmod (a1.length : Int)))).tight), vI ((idx (idx a0.links (idx a1 x312)) (idx a1 ((w64 (x312 + 1)).tmod (a1.length : Int)))).loose)]]) (by kernel_rfl) ?_
    replace hI := hI.drew'
    refine hg (n := 7) [(0, .p), (1, .p), (2, .p), (3, .p), (4, .p), (5, .l 0 1), (6, .p), (7, .l 1 0), (8, .p)] (fun _ hS => (gB (hS.lies hb0z) (hS.grp 0 rfl))) (hI.pk [1]) ?_
    refine ho (n := 6) 9 rfl (ec (enter50 _) (ring_Spaced_1zcalls (idx (idx a0.links (idx a1 x312)) (idx a1 ((w64 (x312 + 1)).tmod (a1.length : Int)))) x312 (memOf _) _ (Inv.start _) _ hy412) ?_)
    rintro _ _ ⟨rfl, hI'⟩
    replace hI := hI.call0 hI'
    clear hI'
    refine ⟨_, rfl, ?_⟩
    refine ⟨(hI.pk [1]), ?_⟩
    refine hx (n := 3) [(10, .p), (11, .x), (12, .l 0 0)] (fun _ hS => (gA (hS.lies (rdS.flook hr0z0 rfl g413)))) (hI.pk [1]) _ (bZ g413) ?_
    refine ho (n := 2) 13 rfl (e_partsS 22 40 1 _ _ _ #[vI ((idx a0.g.Edges (w64 (y411 - 1))).From), vI ((idx a0.g.Edges (w64 (y411 - 1))).To), vI ((idx a0.g.Edges (w64 (y411 - 1))).Kind), vI ((idx a0.g.Edges (w64 (y411 - 1))).Key)] [vI ((idx a0.g.Edges (w64 (y411 - 1))).From), vI ((idx a0.g.Edges (w64 (y411 - 1))).To), vI ((idx a0.g.Edges (w64 (y411 - 1))).Kind), vI ((idx a0.g.Edges (w64 (y411 - 1))).Key)] rfl rfl rfl rfl (by kernel_rfl) (by kernel_rfl) (by kernel_rfl) (by kernel_rfl) hI ?_)
    clear hI
    intro b416 _ hs417 hI
    refine ⟨(hI.pk [1]), ?_⟩
    refine ho (n := 1) 14 rfl (e_append kEdge 22 0 40 _ _ _ _ A310 l309.length c311 l309 ([(idx a0.g.Edges (w64 (y411 - 1)))] : List Edge) b416 0 1 1 [vI ((idx a0.g.Edges (w64 (y411 - 1))).From), vI ((idx a0.g.Edges (w64 (y411 - 1))).To), vI ((idx a0.g.Edges (w64 (y411 - 1))).Kind), vI ((idx a0.g.Edges (w64 (y411 - 1))).Key)] 0 [] [1, 2] [] [.blk b410 85 [vI ((idx (idx a0.links (idx a1 x312)) (idx a1 ((w64 (x312 + 1)).tmod (a1.length : Int)))).tight), vI ((idx (idx a0.links (idx a1 x312)) (idx a1 ((w64 (x312 + 1)).tmod (a1.length : Int)))).loose)], .blk b416 40 [vI ((idx a0.g.Edges (w64 (y411 - 1))).From), vI ((idx a0.g.Edges (w64 (y411 - 1))).To), vI ((idx a0.g.Edges (w64 (y411 - 1))).Kind), vI ((idx a0.g.Edges (w64 (y411 - 1))).Key)]] rfl (by kernel_rfl) (by kernel_rfl) rfl rfl rfl rfl rfl (by kernel_rfl) hI (by decide) rfl rfl rfl (hI.grp 2 rfl) g418 (mks_cons (mk_flat (k := kEdge) (idx a0.g.Edges (w64 (y411 - 1))) [vI ((idx a0.g.Edges (w64 (y411 - 1))).From), vI ((idx a0.g.Edges (w64 (y411 - 1))).To), vI ((idx a0.g.Edges (w64 (y411 - 1))).Kind), vI ((idx a0.g.Edges (w64 (y411 - 1))).Key)] rfl) mks_nil) ?_)
    clear hI
    intro A419 c420 _ hI
    replace hI := hI.pick (L' := [.row kEdge 40 A419 ((l309 ++ ([(idx a0.g.Edges (w64 (y411 - 1)))] : List Edge)).length) c420 (l309 ++ ([(idx a0.g.Edges (w64 (y411 - 1)))] : List Edge)), .blk b410 85 [vI ((idx (idx a0.links (idx a1 x312)) (idx a1 ((w64 (x312 + 1)).tmod (a1.length : Int)))).tight), vI ((idx (idx a0.links (idx a1 x312)) (idx a1 ((w64 (x312 + 1)).tmod (a1.length : Int)))).loose)]]) [0, 1] (by decide) rfl
    refine ⟨(hI.pk [1]), ?_⟩
    refine hg (n := 0) [(15, .p)] (fun _ hS => gO) (hI.pk [1]) (hd (go_inBlock (rp 2 ?_)))
    exact hin1 _ (Option.some.inj H).symm _ _ ⟨_, A419, c420, at_, hI.pick [0] (by decide) rfl⟩
  · refine ge hc314 ?_
    refine go_exit rfl ?_
    refine go_seq (rp 2 ?_)
    replace H := out_some H
    obtain ⟨_, H, he1⟩ := H
    have he := (hout1 _ he1).symm
    subst he
    replace H := Option.some.inj H
    subst H
    exact gr Tryd.func47 ⟨A310, c311, rfl, hI⟩

/-! ### ring_Spaced -/
theorem enter40 (a : Array Value) : Sem.pureRun Tryd.prog (callFunc 40 a) = some (.enter 40 a) := by kernel_rfl
theorem ring_Spaced_calls (a0 : Graph) (A0z0 : Option Addr) (c0z0 : Nat) (a1 : Int) (a2 : Int) (M : Mem) (w : World) (hI : Inv M w []) (hr0z0 : rdS kEdge M.blk A0z0 a0.Edges) (hl0z0 : a0.Edges.length ≤ c0z0) (r : List Edge × Int) (H : ring_Spaced a0 a1 a2 = some r) :
    Calls Tryd.prog 40 #[.agg #[vI a0.N, vS A0z0 a0.Edges.length c0z0], vI a1, vI a2] w fun e w' => ∃ (A265 : Option Addr), ∃ (c266 : Nat), e = .returned (.tuple #[vS A265 r.1.length c266, vI r.2]) ∧ Inv M w' [.row kEdge 40 A265 r.1.length c266 r.1] := by
  refine cg Tryd.func40 ?_
  intro cs
  unfold ring_Spaced at H
  refine go_seq (r_in (oe 0 rfl ?_))
  refine e_box 24 _ (.agg #[vI a0.N, vS A0z0 a0.Edges.length c0z0]) [vI a0.N, vS A0z0 a0.Edges.length c0z0] rfl (by kernel_rfl) rfl hI ?_
  clear hI
  intro b2 _ hI
  refine bp 1 2 (ro (go_seq (go_seq (r_in (bg 0 [.l 0 0] (gA (hI.grp 0 rfl)) ?_)))))
  replace H := bind_some H
  obtain ⟨y8, hy9, H⟩ := H
  refine oe 1 rfl ?_
  refine ec (enter18 _) (graph_Check_calls a0 A0z0 c0z0 (memOf _) _ (Inv.start _) (hI.rd hr0z0) hl0z0 _ hy9) ?_
  rintro _ _ ⟨rfl, hI'⟩
  replace hI := hI.call0 hI'
  clear hI'
  refine ⟨_, rfl, ?_⟩
  refine bp 2 1 (ro (go_seq (rp 2 ?_)))
  replace H := cond_some H
  rcases H with ⟨hc10, H⟩ | ⟨hc10, H⟩
  · refine gt hc10 (go_seq (rp 3 ?_))
    replace H := Option.some.inj H
    subst H
    exact gr Tryd.func40 ⟨none, 0, rfl, (hI.nilrow kEdge 40).pick [1] (by decide) rfl⟩
  · refine ge hc10 (go_skip (go_seq (r_in (bg 0 [.l 0 0, .p, .p] (gA (hI.grp 0 rfl)) ?_))))
    replace H := bind_some H
    obtain ⟨y20, hy21, H⟩ := H
    refine oe 3 rfl ?_
    refine ec (enter45 _) (ring_newNet_calls a0 A0z0 c0z0 a1 a2 (memOf _) _ (Inv.start _) M.blk hI.fix hr0z0 hl0z0 _ hy21) ?_
    rintro _ _ ⟨b22, A23, c24, A27, c28, rfl, hr25, hl26, hI'⟩
    replace hI := hI.call0 hI'
    clear hI'
    refine ⟨_, rfl, ?_⟩
    refine bp 4 1 (ro (go_seq (rp 1 (go_seq (go_seq (rg [.p, .l 0 0, .p] (gA (hI.grp 0 rfl)) ?_))))))
    refine go_block_join (o := r) (fun l158 f w => ∃ (j : Nat → Value) (A159 : Option Addr) (c160 : Nat), f = updL j [(9, vP b22 0), (10, vS A159 l158.length c160)] ∧ Inv M w [.blk b22 89 [vI y20.g.N, vS A23 y20.g.Edges.length c24, vS A27 y20.links.length c28], .row (tSlice 85 kRingLink) 86 A27 y20.links.length c28 y20.links, .row (tInt .i64) 3 A159 l158.length c160 l158]) (fun l158 => ring_Spaced.j1 y20 l158) ?_ (fun hJ161 => ?_)
    · clear H hI
      rintro l158 _ _ ⟨_, A159, c160, rfl, hI⟩ H
      refine go_seq (r_in (bp 0 2 ?_))
      replace H := bind_some H
      obtain ⟨y166, hy167, H⟩ := H
      refine oe 2 rfl ?_
      refine ec (enter47 _) (ring_net_edges_ring_Spaced_1zcalls b22 y20 A23 c24 A27 c28 A159 c160 l158 (memOf _) _ (Inv.start _) (Grp.lies (hI.grp 0 rfl)) (hI.rd hr25) hl26 (hI.row 1 rfl) (hI.rowle 1 rfl) (hI.row 2 rfl) (hI.rowle 2 rfl) _ hy167) ?_
      rintro _ _ ⟨A168, c169, rfl, hI'⟩
      replace hI := hI.call0 hI'
      clear hI'
      refine ⟨_, rfl, ?_⟩
      refine bp 3 2 (ro ?_)
      replace H := Option.some.inj H
      subst H
      exact gr Tryd.func40 ⟨A168, c169, rfl, hI.pick [3] (by decide) rfl⟩
    · refine go_iter (ring_Spaced.s2 a0 y20) (fun (l216, x219) f w => ∃ (j : Nat → Value) (A217 : Option Addr) (c218 : Nat), f = updL j [(3, vP b2 0), (9, vP b22 0), (10, vS A217 l216.length c218), (24, vI a0.N), (25, vI x219)] ∧ Inv M w [.blk b2 24 [vI a0.N, vS A0z0 a0.Edges.length c0z0], .blk b22 89 [vI y20.g.N, vS A23 y20.g.Edges.length c24, vS A27 y20.links.length c28], .row (tSlice 85 kRingLink) 86 A27 y20.links.length c28 y20.links, .row (tInt .i64) 3 A217 l216.length c218 l216]) H ⟨_, none, 0, at_, (hI.nilrow (tInt .i64) 3)⟩ ?_
      clear H hI
      rintro ⟨l216, x219⟩ _ _ o1 H ⟨_, A217, c218, rfl, hI⟩ hin1 hout1
      refine go_seq (rp 1 (go_seq ?_))
      replace H := cond_some H
      rcases H with ⟨hc221, H⟩ | ⟨hc221, H⟩
      · refine gt hc221 (go_skip (go_seq ?_))
        refine go_block_join (o := o1) (fun l243 f w => ∃ (j : Nat → Value) (A244 : Option Addr) (c245 : Nat), f = updL j [(3, vP b2 0), (9, vP b22 0), (10, vS A244 l243.length c245), (24, vI a0.N), (25, vI x219)] ∧ Inv M w [.blk b2 24 [vI a0.N, vS A0z0 a0.Edges.length c0z0], .blk b22 89 [vI y20.g.N, vS A23 y20.g.Edges.length c24, vS A27 y20.links.length c28], .row (tSlice 85 kRingLink) 86 A27 y20.links.length c28 y20.links, .row (tInt .i64) 3 A244 l243.length c245 l243]) (fun l243 => ring_Spaced.j3 x219 l243) ?_ (fun hJ246 => ?_)
        · clear H hI
          rintro l243 _ _ ⟨_, A244, c245, rfl, hI⟩ H
          refine rp 2 ?_
          exact hin1 _ (Option.some.inj H).symm _ _ ⟨_, A244, c245, at_, hI⟩
        · refine go_seq (rp 2 (go_seq (rg [.p, .l 0 0, .p, .p] (gA (hI.grp 0 rfl)) ?_)))
          refine go_seq_join (o := o1) (fun x248 f w => ∃ (j : Nat → Value), f = updL j [(3, vP b2 0), (9, vP b22 0), (10, vS A217 l216.length c218), (11, vI x219), (12, vI x248), (24, vI a0.N), (25, vI x219)] ∧ Inv M w [.blk b2 24 [vI a0.N, vS A0z0 a0.Edges.length c0z0], .blk b22 89 [vI y20.g.N, vS A23 y20.g.Edges.length c24, vS A27 y20.links.length c28], .row (tSlice 85 kRingLink) 86 A27 y20.links.length c28 y20.links, .row (tInt .i64) 3 A217 l216.length c218 l216]) (fun x248 => ring_Spaced.j4 y20 l216 x219 x248) ?_ (fun hJ249 => ?_)
          · clear H hI
            rintro x248 _ _ ⟨_, rfl, hI⟩ H
            refine go_seq (go_seq (rp 2 ?_))
            replace H := cond_some H
            rcases H with ⟨hc251, H⟩ | ⟨hc251, H⟩
            · refine gt hc251 ?_
              refine go_exit rfl ?_
              replace H := out_some H
              obtain ⟨_, H, he1⟩ := H
              have he := (hout1 _ he1).symm
              subst he
              exact hJ161 l216 _ _ ⟨_, A217, c218, at_, hI.pick [1, 2, 3] (by decide) rfl⟩ H
            · refine ge hc251 (go_skip (go_seq (r_in (bp 0 3 ?_))))
              replace H := bind_some H
              obtain ⟨y257, hy258, H⟩ := H
              refine oe 3 rfl ?_
              refine ec (enter49 _) (ring_net_round_calls b22 y20 A23 c24 A27 c28 x219 x248 (memOf _) _ (Inv.start _) (Grp.lies (hI.grp 1 rfl)) (hI.rd hr25) hl26 (hI.row 2 rfl) (hI.rowle 2 rfl) _ hy258) ?_
              rintro _ _ ⟨A259, c260, rfl, hn261, hI'⟩
              replace hI := hI.call0 hI'
              clear hI'
              refine ⟨_, rfl, ?_⟩
              refine bp 4 1 (ro (go_seq (r_in (bp 0 1 (oe 1 rfl ?_)))))
              refine e_notnil 43 3 _ _ _ A259 y257.1.length c260 hn261 rfl (by kernel_rfl) (by kernel_rfl) (by kernel_rfl) (by kernel_rfl) ?_
              refine ro ?_
              replace H := cond_some H
              rcases H with ⟨hc262, H⟩ | ⟨hc262, H⟩
              · refine gt hc262 (rp 2 (go_inBlock ?_))
                exact hJ246 y257.1 _ _ ⟨_, A259, c260, at_, hI.pick [0, 1, 2, 4] (by decide) rfl⟩ H
              · refine ge hc262 (go_skip (go_inBlock ?_))
                exact hJ246 l216 _ _ ⟨_, A217, c218, at_, hI.pick [0, 1, 2, 3] (by decide) rfl⟩ H
          · refine go_seq (rp 3 ?_)
            replace H := cond_some H
            rcases H with ⟨hc263, H⟩ | ⟨hc263, H⟩
            · refine gt hc263 (rp 3 ?_)
              exact hJ249 (l216.length : Int) _ _ ⟨_, at_, hI⟩ H
            · refine ge hc263 (go_skip ?_)
              exact hJ249 (w64 (a0.N + 1)) _ _ ⟨_, at_, hI⟩ H
      · refine ge hc221 ?_
        refine go_exit rfl ?_
        replace H := out_some H
        obtain ⟨_, H, he1⟩ := H
        have he := (hout1 _ he1).symm
        subst he
        exact hJ161 l216 _ _ ⟨_, A217, c218, at_, hI.pick [1, 2, 3] (by decide) rfl⟩ H

/-! ### ring_Plain -/
theorem enter29 (a : Array Value) : Sem.pureRun Tryd.prog (callFunc 29 a) = some (.enter 29 a) := by kernel_rfl
theorem ring_Plain_calls (a0 : Graph) (A0z0 : Option Addr) (c0z0 : Nat) (a1 : Int) (M : Mem) (w : World) (hI : Inv M w []) (hr0z0 : rdS kEdge M.blk A0z0 a0.Edges) (hl0z0 : a0.Edges.length ≤ c0z0) (r : List Edge × Int) (H : ring_Plain a0 a1 = some r) :
    Calls Tryd.prog 29 #[.agg #[vI a0.N, vS A0z0 a0.Edges.length c0z0], vI a1] w fun e w' => ∃ (A12 : Option Addr), ∃ (c13 : Nat), e = .returned (.tuple #[vS A12 r.1.length c13, vI r.2]) ∧ Inv M w' [.row kEdge 40 A12 r.1.length c13 r.1] := by
  refine cg Tryd.func29 ?_
  intro cs
  unfold ring_Plain at H
  refine go_seq (r_in (oe 0 rfl ?_))
  refine e_box 24 _ (.agg #[vI a0.N, vS A0z0 a0.Edges.length c0z0]) [vI a0.N, vS A0z0 a0.Edges.length c0z0] rfl (by kernel_rfl) rfl hI ?_
  clear hI
  intro b2 _ hI
  refine bp 1 2 (ro (go_seq (r_in (bg 0 [.l 0 0, .p] (gA (hI.grp 0 rfl)) ?_))))
  replace H := bind_some H
  obtain ⟨y7, hy8, H⟩ := H
  refine oe 2 rfl ?_
  refine ec (enter40 _) (ring_Spaced_calls a0 A0z0 c0z0 a1 0 (memOf _) _ (Inv.start _) (hI.rd hr0z0) hl0z0 _ hy8) ?_
  rintro _ _ ⟨A9, c10, rfl, hI'⟩
  replace hI := hI.call0 hI'
  clear hI'
  refine ⟨_, rfl, ?_⟩
  refine bp 3 4 (ro ?_)
  replace H := Option.some.inj H
  subst H
  exact gr Tryd.func29 ⟨A9, c10, rfl, hI.pick [1] (by decide) rfl⟩

/-! ### ring_net_back -/
theorem enter46 (a : Array Value) : Sem.pureRun Tryd.prog (callFunc 46 a) = some (.enter 46 a) := by kernel_rfl
theorem ring_net_back_calls (b0z : Nat) (a0 : RingNet) (A0z0 : Option Addr) (c0z0 : Nat) (A0z1 : Option Addr) (c0z1 : Nat) (a1 : Int) (a2 : Int) (M : Mem) (w : World) (hI : Inv M w []) (hb0z : Lies M.blk (b0z, 0, [vI a0.g.N, vS A0z0 a0.g.Edges.length c0z0, vS A0z1 a0.links.length c0z1])) (hr0z0 : rdS kEdge M.blk A0z0 a0.g.Edges) (hl0z0 : a0.g.Edges.length ≤ c0z0) (hr0z1 : rdS (tSlice 85 kRingLink) M.blk A0z1 a0.links) (hl0z1 : a0.links.length ≤ c0z1) (r : (List Int × Bool)) (H : ring_net_back a0 a1 a2 = some r) :
    Calls Tryd.prog 46 #[vP b0z 0, vI a1, vI a2] w fun e w' => ∃ (A8017 : Option Addr), ∃ (c8018 : Nat), e = .returned (vS A8017 r.1.length c8018) ∧ A8017.isNone = r.2 ∧ Inv M w' [.row (tInt .i64) 3 A8017 r.1.length c8018 r.1] := by
  refine cg Tryd.func46 ?_
  intro cs
  unfold ring_net_back at H
  refine go_seq (rp 1 (go_seq (r_in (oe 0 rfl ?_))))
  refine e_makemap Int Int (fun x : Int => vI x) (fun x : Int => vI x) 80 rfl hI ?_
  clear hI
  intro b2 _ hI
  refine bp 1 1 ?_
  refine oe 2 rfl (eff_ins rfl (e_mapput (ek := (fun x : Int => vI x)) (ev := (fun x : Int => vI x)) 80 3 3 _ _ _ 0 b2 ([] : List (Int × Int)) a1 (-1) rfl (by kernel_rfl) (key_int (by kernel_rfl)) (by kernel_rfl) (by kernel_rfl) (by kernel_rfl) hI rfl ?_))
  clear hI
  intro _ hI
  refine bp 3 2 (ro (go_seq (r_in (bp 0 1 (oe 1 rfl ?_)))))
  refine e_partsS 43 3 1 _ _ _ #[vI a1] [vI a1] rfl rfl rfl rfl (by kernel_rfl) (by kernel_rfl) (by kernel_rfl) (by kernel_rfl) hI ?_
  clear hI
  intro b5 _ hs6 hI
  replace hI := hI.asrow (k := (tInt .i64)) (xs := ([a1] : List Int)) (cs := [vI a1]) (R := []) (L' := [mapA (fun x : Int => vI x) (fun x : Int => vI x) b2 (mput ([] : List (Int × Int)) a1 (-1))]) 1 1 [] [0] (by decide) rfl (mks_cons (mk_flat (k := (tInt .i64)) a1 [vI a1] rfl) mks_nil) rfl rfl (by kernel_rfl)
  refine bp 2 1 (ro (go_seq (go_block ?_)))
  refine go_is 8 (vS (some ⟨b5, 0, none⟩) 1 1) (vS (some ⟨b5, 0, none⟩) (([a1] : List Int).length) 1) (by kernel_rfl) (by first | rfl | simp only [List.length_set, List.length_replicate, List.length_nil]) ?_
  replace hI := hI.renum 0 rfl
  refine go_iter (ring_net_back.s1 a0 a2) (fun (m4884, l4885, b4888) f w => ∃ (j : Nat → Value) (A4886 : Option Addr) (c4887 : Nat), f = updL j [(0, vP b0z 0), (2, vI a2), (7, .map (some b2)), (8, vS A4886 l4885.length c4887)] ∧ A4886.isNone = b4888 ∧ Inv M w [mapA (fun x : Int => vI x) (fun x : Int => vI x) b2 m4884, .row (tInt .i64) 3 A4886 l4885.length c4887 l4885]) H ⟨_, (some ⟨b5, 0, none⟩), 1, at_, rfl, hI.pick [1, 0] (by decide) rfl⟩ ?_
  clear H hI
  rintro ⟨m4884, l4885, b4888⟩ _ _ o1 H ⟨_, A4886, c4887, rfl, hn4889, hI⟩ hin1 hout1
  refine go_seq (go_seq (rp 3 ?_))
  replace H := cond_some H
  rcases H with ⟨hc4891, H⟩ | ⟨hc4891, H⟩
  · refine gt hc4891 (go_skip (go_block (go_seq (rp 1 (go_seq (go_seq (rp 3 (go_block ?_))))))))
    refine go_iter (ring_net_back.s2 a0 a2 l4885) (fun (m7088, l7089, b7092, x7094) f w => ∃ (j : Nat → Value) (A7090 : Option Addr) (c7091 : Nat), f = updL j [(0, vP b0z 0), (2, vI a2), (7, .map (some b2)), (9, vS A7090 l7089.length c7091), (25, vS A4886 l4885.length c4887), (26, vI (l4885.length : Int)), (27, vI x7094)] ∧ A7090.isNone = b7092 ∧ Inv M w [mapA (fun x : Int => vI x) (fun x : Int => vI x) b2 m7088, .row (tInt .i64) 3 A7090 l7089.length c7091 l7089, .row (tInt .i64) 3 A4886 l4885.length c4887 l4885]) H ⟨_, none, 0, at_, rfl, (hI.nilrow (tInt .i64) 3).pick [0, 2, 1] (by decide) rfl⟩ ?_
    clear H hI
    rintro ⟨m7088, l7089, b7092, x7094⟩ _ _ o2 H ⟨_, A7090, c7091, rfl, hn7093, hI⟩ hin2 hout2
    refine go_seq (rp 1 (go_seq ?_))
    replace H := cond_some H
    rcases H with ⟨hc7096, H⟩ | ⟨hc7096, H⟩
    · refine gt hc7096 (go_skip (go_seq (go_block (go_seq (r_in ?_)))))
      replace H := must_some H
      obtain ⟨g7467, H⟩ := H
      obtain ⟨b7468, rfl⟩ := hI.rowAt 2 rfl g7467
      refine bx 0 [.x, .l 0 0, .p] (gA ((rdS.flook (hI.row 2 rfl) (hI.rowlen 2 rfl) g7467).ok)) _ (bZ g7467) (ro (go_seq (go_seq (rp 3 ?_))))
      replace H := cond_some H
      rcases H with ⟨hc7522, H⟩ | ⟨hc7522, H⟩
      · refine gt hc7522 (go_seq (r_in (oe 0 rfl ?_)))
        refine e_empty (α := Int) (tInt .i64) 43 3 _ rfl rfl rfl hI ?_
        clear hI
        intro b7524 _ hI
        refine bp 1 1 (ro (go_seq (go_seq (r_in (bp 0 2 (oe 2 rfl ?_))))))
        refine e_lookup (ek := (fun x : Int => vI x)) (ev := (fun x : Int => vI x)) 80 3 3 _ _ false b2 m7088 (idx l4885 x7094) rfl (by kernel_rfl) (key_int (by kernel_rfl)) (fun _ => by kernel_rfl) (by kernel_rfl) (by kernel_rfl) (hI.mapAt 0 rfl) ?_
        refine bp 3 1 (ro (go_block ?_))
        refine go_is 12 (vS (some ⟨b7524, 0, none⟩) 0 0) (vS (some ⟨b7524, 0, none⟩) (([] : List Int).length) 0) (by kernel_rfl) (by first | rfl | simp only [List.length_set, List.length_replicate, List.length_nil]) ?_
        replace hI := hI.renum 3 rfl
        refine go_iter (ring_net_back.s3 m7088) (fun (l7666, x7670) f w => ∃ (j : Nat → Value) (A7667 : Option Addr) (c7668 : Nat), f = updL j [(7, .map (some b2)), (12, vS A7667 l7666.length c7668), (13, vI x7670)] ∧ A7667.isNone = false ∧ Inv M w [mapA (fun x : Int => vI x) (fun x : Int => vI x) b2 m7088, .row (tInt .i64) 3 A7667 l7666.length c7668 l7666]) H ⟨_, (some ⟨b7524, 0, none⟩), 0, at_, rfl, hI.pick [0, 3] (by decide) rfl⟩ ?_
        clear H hI
        rintro ⟨l7666, x7670⟩ _ _ o3 H ⟨_, A7667, c7668, rfl, hn7669, hI⟩ hin3 hout3
        refine go_seq (go_seq (rp 2 ?_))
        replace H := cond_some H
        rcases H with ⟨hc7672, H⟩ | ⟨hc7672, H⟩
        · refine gt hc7672 (go_skip (go_seq (go_block (r_in (bp 0 1 (oe 1 rfl ?_))))))
          refine e_partsS 43 3 1 _ _ _ #[vI x7670] [vI x7670] rfl rfl rfl rfl (by kernel_rfl) (by kernel_rfl) (by kernel_rfl) (by kernel_rfl) hI ?_
          clear hI
          intro b7685 _ hs7686 hI
          replace hI := hI.asrow (k := (tInt .i64)) (xs := ([x7670] : List Int)) (cs := [vI x7670]) (R := []) (L' := [mapA (fun x : Int => vI x) (fun x : Int => vI x) b2 m7088, .row (tInt .i64) 3 A7667 l7666.length c7668 l7666]) 1 2 [] [0, 1] (by decide) rfl (mks_cons (mk_flat (k := (tInt .i64)) x7670 [vI x7670] rfl) mks_nil) rfl rfl (by kernel_rfl)
          refine bp 2 1 ?_
          replace H := must_some H
          obtain ⟨g7687, H⟩ := H
          refine oe 3 rfl ?_
          refine e_append_rd (kt := (tInt .i64)) 43 0 3 _ _ _ _ (some ⟨b7685, 0, none⟩) A7667 1 1 ([x7670] : List Int) l7666 c7668 0 [1, 2] [mapA (fun x : Int => vI x) (fun x : Int => vI x) b2 m7088, .row (tInt .i64) 3 A7667 l7666.length c7668 l7666] rfl (by kernel_rfl) (by kernel_rfl) rfl rfl rfl rfl rfl (by kernel_rfl) hI (by decide) rfl (hI.row 2 rfl) g7687 ?_
          clear hI
          intro A7688 c7689 _ hI
          have hn7690 := row_some (hI.row 0 rfl) (by simp)
          refine bp 4 1 (ro (go_inBlock (r_in (bp 0 2 (oe 2 rfl ?_)))))
          refine e_lookup (ek := (fun x : Int => vI x)) (ev := (fun x : Int => vI x)) 80 3 3 _ _ false b2 m7088 x7670 rfl (by kernel_rfl) (key_int (by kernel_rfl)) (fun _ => by kernel_rfl) (by kernel_rfl) (by kernel_rfl) (hI.mapAt 1 rfl) ?_
          refine bp 3 1 (ro ?_)
          exact hin3 _ (Option.some.inj H).symm _ _ ⟨_, A7688, c7689, at_, hn7690, hI.pick [1, 0] (by decide) rfl⟩
        · refine ge hc7672 ?_
          refine go_exit rfl ?_
          refine go_seq (rp 2 ?_)
          replace H := out_some H
          obtain ⟨_, H, he3⟩ := H
          have he := (hout3 _ he3).symm
          subst he
          replace H := out_some H
          obtain ⟨_, H, he2⟩ := H
          have he := (hout2 _ he2).symm
          subst he
          replace H := out_some H
          obtain ⟨_, H, he1⟩ := H
          have he := (hout1 _ he1).symm
          subst he
          replace H := Option.some.inj H
          subst H
          exact gr Tryd.func46 ⟨A7667, c7668, rfl, hn7669, hI.pick [1] (by decide) rfl⟩
      · refine ge hc7522 (go_skip (go_seq (rg [.p, .p, .p, .p, .l 0 0, .p] (gA (hI.lies hb0z)) (go_block ?_))))
        refine go_iter (ring_net_back.s4 a0 l4885 x7094) (fun (m7913, l7914, b7917, x7919) f w => ∃ (j : Nat → Value) (A7915 : Option Addr) (c7916 : Nat), f = updL j [(0, vP b0z 0), (2, vI a2), (7, .map (some b2)), (9, vS A7915 l7914.length c7916), (11, vI (idx l4885 x7094)), (25, vS (some ⟨b7468, 0, none⟩) l4885.length c4887), (26, vI (l4885.length : Int)), (27, vI x7094), (52, vI a0.g.N), (53, vI x7919)] ∧ A7915.isNone = b7917 ∧ Inv M w [mapA (fun x : Int => vI x) (fun x : Int => vI x) b2 m7913, .row (tInt .i64) 3 A7915 l7914.length c7916 l7914, .row (tInt .i64) 3 (some ⟨b7468, 0, none⟩) l4885.length c4887 l4885]) H ⟨_, A7090, c7091, at_, hn7093, hI⟩ ?_
        clear H hI
        rintro ⟨m7913, l7914, b7917, x7919⟩ _ _ o3 H ⟨_, A7915, c7916, rfl, hn7918, hI⟩ hin3 hout3
        refine go_seq (rp 1 (go_seq ?_))
        replace H := cond_some H
        rcases H with ⟨hc7921, H⟩ | ⟨hc7921, H⟩
        · refine gt hc7921 (go_skip (go_seq ?_))
          refine go_block_join (o := o3) (fun (m7972, l7973, b7976) f w => ∃ (j : Nat → Value) (A7974 : Option Addr) (c7975 : Nat), f = updL j [(0, vP b0z 0), (2, vI a2), (7, .map (some b2)), (9, vS A7974 l7973.length c7975), (11, vI (idx l4885 x7094)), (25, vS (some ⟨b7468, 0, none⟩) l4885.length c4887), (26, vI (l4885.length : Int)), (27, vI x7094), (52, vI a0.g.N), (53, vI x7919)] ∧ A7974.isNone = b7976 ∧ Inv M w [mapA (fun x : Int => vI x) (fun x : Int => vI x) b2 m7972, .row (tInt .i64) 3 A7974 l7973.length c7975 l7973, .row (tInt .i64) 3 (some ⟨b7468, 0, none⟩) l4885.length c4887 l4885]) (fun (m7972, l7973, b7976) => ring_net_back.j5 x7919 m7972 l7973 b7976) ?_ (fun hJ7978 => ?_)
          · clear H hI
            rintro ⟨m7972, l7973, b7976⟩ _ _ ⟨_, A7974, c7975, rfl, hn7977, hI⟩ H
            refine rp 2 ?_
            exact hin3 _ (Option.some.inj H).symm _ _ ⟨_, A7974, c7975, at_, hn7977, hI⟩
          · refine go_seq (rp 2 (go_seq (r_in (bp 0 2 (oe 2 rfl ?_)))))
            refine e_lookup (ek := (fun x : Int => vI x)) (ev := (fun x : Int => vI x)) 80 3 3 _ _ true b2 m7913 x7919 rfl (by kernel_rfl) (key_int (by kernel_rfl)) (fun _ => by kernel_rfl) (by kernel_rfl) (by kernel_rfl) (hI.mapAt 0 rfl) ?_
            refine bp 3 5 (ro ?_)
            refine go_seq_join (o := o3) (fun b7993 f w => ∃ (j : Nat → Value), f = updL j [(0, vP b0z 0), (2, vI a2), (7, .map (some b2)), (9, vS A7915 l7914.length c7916), (11, vI (idx l4885 x7094)), (14, vI x7919), (25, vS (some ⟨b7468, 0, none⟩) l4885.length c4887), (26, vI (l4885.length : Int)), (27, vI x7094), (52, vI a0.g.N), (53, vI x7919), (77, vB b7993)] ∧ Inv M w [mapA (fun x : Int => vI x) (fun x : Int => vI x) b2 m7913, .row (tInt .i64) 3 A7915 l7914.length c7916 l7914, .row (tInt .i64) 3 (some ⟨b7468, 0, none⟩) l4885.length c4887 l4885]) (fun b7993 => ring_net_back.j6 l4885 x7094 m7913 l7914 b7917 x7919 b7993) ?_ (fun hJ7994 => ?_)
            · clear H hI
              rintro b7993 _ _ ⟨_, rfl, hI⟩ H
              replace H := cond_some H
              rcases H with ⟨hc7995, H⟩ | ⟨hc7995, H⟩
              · refine gt hc7995 (go_seq (r_in (bp 0 3 (oe 3 rfl ?_))))
                refine e_mapput (ek := (fun x : Int => vI x)) (ev := (fun x : Int => vI x)) 80 3 3 _ _ _ 0 b2 m7913 x7919 (idx l4885 x7094) rfl (by kernel_rfl) (key_int (by kernel_rfl)) (by kernel_rfl) (by kernel_rfl) (by kernel_rfl) hI rfl ?_
                clear hI
                intro _ hI
                refine ro (r_in (bp 0 2 (oe 2 rfl ?_)))
                refine e_partsS 43 3 1 _ _ _ #[vI x7919] [vI x7919] rfl rfl rfl rfl (by kernel_rfl) (by kernel_rfl) (by kernel_rfl) (by kernel_rfl) hI ?_
                clear hI
                intro b7996 _ hs7997 hI
                replace H := must_some H
                obtain ⟨g7998, H⟩ := H
                refine oe 3 rfl ?_
                refine e_append (tInt .i64) 43 0 3 _ _ _ _ A7915 l7914.length c7916 l7914 ([x7919] : List Int) b7996 0 1 1 [vI x7919] 1 [] [0, 2, 3] [] [mapA (fun x : Int => vI x) (fun x : Int => vI x) b2 (mput m7913 x7919 (idx l4885 x7094)), .row (tInt .i64) 3 (some ⟨b7468, 0, none⟩) l4885.length c4887 l4885, .blk b7996 3 [vI x7919]] rfl (by kernel_rfl) (by kernel_rfl) rfl rfl rfl rfl rfl (by kernel_rfl) hI (by decide) rfl rfl rfl (hI.grp 3 rfl) g7998 (mks_cons (mk_flat (k := (tInt .i64)) x7919 [vI x7919] rfl) mks_nil) ?_
                clear hI
                intro A7999 c8000 _ hI
                have hn8001 := row_some (hI.row 0 rfl) (by simp)
                replace hI := hI.pick (L' := [.row (tInt .i64) 3 A7999 ((l7914 ++ ([x7919] : List Int)).length) c8000 (l7914 ++ ([x7919] : List Int)), mapA (fun x : Int => vI x) (fun x : Int => vI x) b2 (mput m7913 x7919 (idx l4885 x7094)), .row (tInt .i64) 3 (some ⟨b7468, 0, none⟩) l4885.length c4887 l4885]) [0, 1, 2] (by decide) rfl
                refine bp 4 1 (ro (go_inBlock ?_))
                exact hJ7978 (mput m7913 x7919 (idx l4885 x7094), l7914 ++ ([x7919] : List Int), false) _ _ ⟨_, A7999, c8000, at_, hn8001, hI.pick [1, 0, 2] (by decide) rfl⟩ H
              · refine ge hc7995 (go_skip (go_inBlock ?_))
                exact hJ7978 (m7913, l7914, b7917) _ _ ⟨_, A7915, c7916, at_, hn7918, hI⟩ H
            · refine r_in ?_
              replace H := cond_some H
              rcases H with ⟨hc8002, H⟩ | ⟨hc8002, H⟩
              · replace H := must_some H
                obtain ⟨g8003, H⟩ := H
                obtain ⟨b8007, q8008, rfl, cs8006, hk8005, hg8004⟩ := rdS.open hr0z1 rfl g8003
                obtain ⟨A8009, c8010, rfl, hl8012, hr8011⟩ := hk8005
                replace H := must_some H
                obtain ⟨g8013, H⟩ := H
                obtain ⟨b8014, q8015, rfl, _⟩ := rdS.fopen hr8011 rfl g8013
                refine bx 0 [.p, .p, .c true, .p, .p, .p, .l 0 2, .p, .x, .l 1 0, .p, .x, .p, .l 2 0, .p, .p] (gC (hI.lies hb0z) (hI.lies hg8004) (hI.lies (rdS.flook hr8011 rfl g8013))) _ (bC (bndEq hc8002) (bC g8003 (bZ g8013))) (ro ?_)
                exact hJ7994 (decide ((idx (idx a0.links (idx l4885 x7094)) x7919).tight > 0)) _ _ ⟨_, at_, hI⟩ H
              · refine bx 0 [.p, .p, .c false, .p, .p, .p, .p, .p, .p, .p, .p, .p, .p, .p, .p, .p] gO _ (bZ (bndEq hc8002)) (ro ?_)
                exact hJ7994 false _ _ ⟨_, at_, hI⟩ H
        · refine ge hc7921 ?_
          refine go_exit rfl ?_
          refine go_inBlock (rp 2 ?_)
          replace H := out_some H
          obtain ⟨_, H, he3⟩ := H
          have he := (hout3 _ he3).symm
          subst he
          exact hin2 _ (Option.some.inj H).symm _ _ ⟨_, A7915, c7916, at_, hn7918, hI⟩
    · refine ge hc7096 ?_
      refine go_exit rfl ?_
      refine rp 2 (go_inBlock ?_)
      replace H := out_some H
      obtain ⟨_, H, he2⟩ := H
      have he := (hout2 _ he2).symm
      subst he
      exact hin1 _ (Option.some.inj H).symm _ _ ⟨_, A7090, c7091, at_, hn7093, hI.pick [0, 1] (by decide) rfl⟩
  · refine ge hc4891 ?_
    refine go_exit rfl ?_
    refine go_seq (rp 1 ?_)
    replace H := out_some H
    obtain ⟨_, H, he1⟩ := H
    have he := (hout1 _ he1).symm
    subst he
    replace H := Option.some.inj H
    subst H
    exact gr Tryd.func46 ⟨none, 0, rfl, rfl, (hI.nilrow (tInt .i64) 3).pick [2] (by decide) rfl⟩

/-! ### ring_Single_1 -/
theorem enter48 (a : Array Value) : Sem.pureRun Tryd.prog (callFunc 48 a) = some (.enter 48 a) := by kernel_rfl
theorem ring_Single_1zcalls (a0 : RingLink) (a1 : Int) (M : Mem) (w : World) (hI : Inv M w []) (r : Int) (H : ring_Single_1 a0 a1 = some r) :
    Calls Tryd.prog 48 #[.agg #[vI a0.tight, vI a0.loose], vI a1] w fun e w' => e = .returned (vI r) ∧ Inv M w' [] := by
  refine cg Tryd.func48 ?_
  intro cs
  unfold ring_Single_1 at H
  refine go_seq (r_in (oe 0 rfl ?_))
  refine e_box 85 _ (.agg #[vI a0.tight, vI a0.loose]) [vI a0.tight, vI a0.loose] rfl (by kernel_rfl) rfl hI ?_
  clear hI
  intro b2 _ hI
  refine bp 1 1 (ro (go_seq (go_seq (rp 2 ?_))))
  replace H := cond_some H
  rcases H with ⟨hc4, H⟩ | ⟨hc4, H⟩
  · refine gt hc4 (go_seq (rg [.p, .l 0 1, .p] (gA (hI.grp 0 rfl)) ?_))
    replace H := Option.some.inj H
    subst H
    exact gr Tryd.func48 ⟨rfl, hI.pn⟩
  · refine ge hc4 (go_skip (go_seq (rg [.p, .l 0 0, .p] (gA (hI.grp 0 rfl)) ?_)))
    replace H := Option.some.inj H
    subst H
    exact gr Tryd.func48 ⟨rfl, hI.pn⟩

end Go.Proofs.YtncapkloanfmnaaDoorT
