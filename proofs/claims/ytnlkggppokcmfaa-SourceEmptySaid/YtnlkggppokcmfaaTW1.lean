/- The walks, part 1: each call computes its plain function. -/
import Derived.Test.YtnlkggppokcmfaaTD
import Derived.Test.YtnlkggppokcmfaaProg
namespace Go.Proofs.YtnlkggppokcmfaaT
open Go Go.Proofs Go.Proofs.YtnlkggppokcmfaaE
set_option linter.unusedVariables false
set_option linter.unusedSimpArgs false
set_option maxHeartbeats 0
set_option maxRecDepth 4096
theorem keyIndexFact : KeyL Try.prog 140 (fun x : IndexFact => .agg #[.string x.key, .int .i64 x.arg]) := key_agg (P := Try.prog) (kt := 140) rfl _ (fun _ _ => by kernel_rfl) (fun a b => ⟨(a.key == b.key && (a.arg == b.arg && true)), by kernel_rfl, by obtain ⟨a0, a1⟩ := a; obtain ⟨b0, b1⟩ := b; simp [MapKept.bytes_beq]⟩) (fun x => by simp [Instr.sameBits, MapKept.bytes_beq])
theorem enter77 (a : Array Value) : Sem.pureRun Try.prog (callFunc 77 a) = some (.enter 77 a) := by kernel_rfl
theorem slices_Index_string_calls (A0z : Option Addr) (c0z : Nat) (a0 : List ByteArray) (a1 : ByteArray) (M : Mem) (w : World) (hI : Inv M w []) (hr0z : rdS tStr M.blk A0z a0) (hl0z : a0.length ≤ c0z) (r : Int) (H : slices_Index_string a0 a1 = some r) :
    Calls Try.prog 77 #[vS A0z a0.length c0z, .string a1] w fun e w' => e = .returned (vI r) ∧ Inv M w' [] := by
  refine cg Try.func77 ?_
  intro cs
  unfold slices_Index_string at H
  refine go_seq (rp 1 (go_seq (go_seq (rp 3 (go_block ?_)))))
  refine go_iter (slices_Index_string.s1 a0 a1) (fun x58 f w => ∃ (j : Nat → Value), f = updL j [(0, vS A0z a0.length c0z), (1, .string a1), (7, vI (a0.length : Int)), (8, vI x58)] ∧ Inv M w []) H ⟨_, at_, hI⟩ ?_
  clear H hI
  rintro x58 _ _ o1 H ⟨_, rfl, hI⟩ hin1 hout1
  refine go_seq (rp 1 (go_seq ?_))
  replace H := cond_some H
  rcases H with ⟨hc60, H⟩ | ⟨hc60, H⟩
  · refine gt hc60 (go_skip (go_seq (go_block (go_seq (rp 2 (go_seq (r_in ?_)))))))
    replace H := must_some H
    obtain ⟨g72, H⟩ := H
    obtain ⟨b73, q74, rfl, _⟩ := rdS.fopen hr0z rfl g72
    refine bx 0 [.p, .p, .p, .x, .l 0 0, .p] (gA (hI.lies (rdS.flook hr0z rfl g72))) _ (bZ g72) (ro ?_)
    replace H := cond_some H
    rcases H with ⟨hc75, H⟩ | ⟨hc75, H⟩
    · refine gt hc75 (go_seq (rp 2 ?_))
      replace H := out_some H
      obtain ⟨_, H, he1⟩ := H
      have he := (hout1 _ he1).symm
      subst he
      replace H := Option.some.inj H
      subst H
      exact gr Try.func77 ⟨rfl, hI⟩
    · refine ge hc75 (go_skip (go_inBlock (rp 2 ?_)))
      exact hin1 _ (Option.some.inj H).symm _ _ ⟨_, at_, hI⟩
  · refine ge hc60 ?_
    refine go_exit rfl ?_
    refine go_seq (rp 1 ?_)
    replace H := out_some H
    obtain ⟨_, H, he1⟩ := H
    have he := (hout1 _ he1).symm
    subst he
    replace H := Option.some.inj H
    subst H
    exact gr Try.func77 ⟨rfl, hI⟩
theorem enter40 (a : Array Value) : Sem.pureRun Try.prog (callFunc 40 a) = some (.enter 40 a) := by kernel_rfl
theorem slices_Contains_string_calls (A0z : Option Addr) (c0z : Nat) (a0 : List ByteArray) (a1 : ByteArray) (M : Mem) (w : World) (hI : Inv M w []) (hr0z : rdS tStr M.blk A0z a0) (hl0z : a0.length ≤ c0z) (r : Bool) (H : slices_Contains_string a0 a1 = some r) :
    Calls Try.prog 40 #[vS A0z a0.length c0z, .string a1] w fun e w' => e = .returned (vB r) ∧ Inv M w' [] := by
  refine cg Try.func40 ?_
  intro cs
  unfold slices_Contains_string at H
  refine go_seq (rp 1 (go_seq (r_in (bp 0 2 ?_))))
  replace H := bind_some H
  obtain ⟨y3, hy4, H⟩ := H
  refine oe 2 rfl ?_
  refine ec (enter77 _) (slices_Index_string_calls A0z c0z a0 a1 (memOf _) _ (Inv.start _) (hI.rd hr0z) hl0z _ hy4) ?_
  rintro _ _ ⟨rfl, hI'⟩
  replace hI := hI.call0 hI'
  clear hI'
  refine ⟨_, rfl, ?_⟩
  refine bp 3 2 (ro ?_)
  replace H := Option.some.inj H
  subst H
  exact gr Try.func40 ⟨rfl, hI⟩
theorem enter41 (a : Array Value) : Sem.pureRun Try.prog (callFunc 41 a) = some (.enter 41 a) := by kernel_rfl
theorem index_newLedger_calls  (M : Mem) (w : World) (hI : Inv M w []) (r : IndexLedger) (H : index_newLedger = some r) :
    Calls Try.prog 41 #[] w fun e w' => ∃ (b10 : Nat), ∃ (A11 : Option Addr), ∃ (c12 : Nat), ∃ (b13 : Nat), ∃ (A14 : Option Addr), ∃ (c15 : Nat), ∃ (b16 : Nat), ∃ (b17 : Nat), e = .returned (vP b10 0) ∧ Inv M w' [.blk b10 136 [vS A11 r.keys.length c12, .map (some b13), vS A14 r.types.length c15, .map (some b16), .map (some b17)], .row tStr 9 A11 r.keys.length c12 r.keys, mapA (fun x : ByteArray => .string x) (fun x : Int => vI x) b13 r.at_, .row (tInt .i64) 3 A14 r.types.length c15 r.types, mapA (fun x : IndexFact => .agg #[.string x.key, vI x.arg]) (fun _ : Unit => .agg #[]) b16 r.facts, mapO (fun x : ByteArray => .string x) (tSlice 3 (tInt .i64)) b17 r.incs] := by
  refine cg Try.func41 ?_
  intro cs
  unfold index_newLedger at H
  refine go_seq (rp 1 (go_seq (r_in (oe 0 rfl ?_))))
  refine e_makemap ByteArray Int (fun x : ByteArray => .string x) (fun x : Int => vI x) 132 rfl hI ?_
  clear hI
  intro b5 _ hI
  refine oe 1 rfl ?_
  refine e_makemap IndexFact Unit (fun x : IndexFact => .agg #[.string x.key, vI x.arg]) (fun _ : Unit => .agg #[]) 133 rfl hI ?_
  clear hI
  intro b6 _ hI
  refine oe 2 rfl ?_
  refine e_makemapO ByteArray (List Int) (fun x : ByteArray => .string x) (tSlice 3 (tInt .i64)) 134 rfl hI ?_
  clear hI
  intro b7 _ hI
  refine bp 3 1 (oe 4 rfl ?_)
  refine e_box 136 _ (.agg #[vS none 0 0, .map (some b5), vS none 0 0, .map (some b6), .map (some b7)]) [vS none 0 0, .map (some b5), vS none 0 0, .map (some b6), .map (some b7)] rfl (by kernel_rfl) rfl hI ?_
  clear hI
  intro b8 _ hI
  refine bp 5 1 (ro ?_)
  replace H := Option.some.inj H
  subst H
  exact gr Try.func41 ⟨b8, none, 0, b5, none, 0, b6, b7, rfl, ((hI.nilrow tStr 9).nilrow (tInt .i64) 3).pick [3, 4, 0, 5, 1, 2] (by decide) rfl⟩
theorem enter112 (a : Array Value) : Sem.pureRun Try.prog (callFunc 112 a) = some (.enter 112 a) := by kernel_rfl
theorem wire_shape_calls (a0 : Int) (M : Mem) (w : World) (hI : Inv M w []) (r : Int × Int) (H : wire_shape a0 = some r) :
    Calls Try.prog 112 #[vI a0] w fun e w' => e = .returned (.tuple #[vI r.1, vI r.2]) ∧ Inv M w' [] := by
  refine cg Try.func112 ?_
  intro cs
  unfold wire_shape at H
  refine go_seq (rp 2 (go_seq (go_seq (rp 1 (go_block (go_seq (rp 2 ?_)))))))
  replace H := cond_some H
  rcases H with ⟨hc5, H⟩ | ⟨hc5, H⟩
  · refine gt hc5 (go_seq (rp 2 ?_))
    replace H := Option.some.inj H
    subst H
    exact gr Try.func112 ⟨rfl, hI⟩
  · refine ge hc5 (go_seq (rp 2 ?_))
    replace H := cond_some H
    rcases H with ⟨hc6, H⟩ | ⟨hc6, H⟩
    · refine gt hc6 (go_seq (rp 2 ?_))
      replace H := Option.some.inj H
      subst H
      exact gr Try.func112 ⟨rfl, hI⟩
    · refine ge hc6 (go_skip (go_inBlock (go_seq (rp 2 ?_))))
      replace H := Option.some.inj H
      subst H
      exact gr Try.func112 ⟨rfl, hI⟩
theorem enter99 (a : Array Value) : Sem.pureRun Try.prog (callFunc 99 a) = some (.enter 99 a) := by kernel_rfl
theorem wire_sound_calls (a0 : Call) (A0z0 : Option Addr) (c0z0 : Nat) (a1 : Int) (M : Mem) (w : World) (hI : Inv M w []) (hr0z0 : rdS (tInt .i64) M.blk A0z0 a0.Vals) (hl0z0 : a0.Vals.length ≤ c0z0) (r : Bool) (H : wire_sound a0 a1 = some r) :
    Calls Try.prog 99 #[.agg #[vI a0.Kind, .string a0.Key, vI a0.Arg, vB a0.Got, vS A0z0 a0.Vals.length c0z0], vI a1] w fun e w' => e = .returned (vB r) ∧ Inv M w' [] := by
  refine cg Try.func99 ?_
  intro cs
  unfold wire_sound at H
  refine go_seq (r_in (oe 0 rfl ?_))
  refine e_box 89 _ (.agg #[vI a0.Kind, .string a0.Key, vI a0.Arg, vB a0.Got, vS A0z0 a0.Vals.length c0z0]) [vI a0.Kind, .string a0.Key, vI a0.Arg, vB a0.Got, vS A0z0 a0.Vals.length c0z0] rfl (by kernel_rfl) rfl hI ?_
  clear hI
  intro b2 _ hI
  refine bp 1 1 (ro (go_seq ?_))
  refine go_seq_join (o := r) (fun b11 f w => ∃ (j : Nat → Value), f = updL j [(1, vI a1), (2, vP b2 0), (26, vB b11)] ∧ Inv M w [.blk b2 89 [vI a0.Kind, .string a0.Key, vI a0.Arg, vB a0.Got, vS A0z0 a0.Vals.length c0z0]]) (fun b11 => wire_sound.j1 a0 a1 b11) ?_ (fun hJ12 => ?_)
  · clear H hI
    rintro b11 _ _ ⟨_, rfl, hI⟩ H
    replace H := cond_some H
    rcases H with ⟨hc13, H⟩ | ⟨hc13, H⟩
    · refine gt hc13 (go_seq (rp 1 ?_))
      replace H := Option.some.inj H
      subst H
      exact gr Try.func99 ⟨rfl, hI.pn⟩
    · refine ge hc13 (go_skip (go_seq (go_seq (rg [.p, .l 0 0, .p] (gA (hI.grp 0 rfl)) ?_))))
      replace H := cond_some H
      rcases H with ⟨hc20, H⟩ | ⟨hc20, H⟩
      · refine gt hc20 (go_seq (r_in ?_))
        replace H := cond_some H
        rcases H with ⟨hc25, H⟩ | ⟨hc25, H⟩
        · replace H := cond_some H
          rcases H with ⟨hc26, H⟩ | ⟨hc26, H⟩
          · replace H := cond_some H
            rcases H with ⟨hc27, H⟩ | ⟨hc27, H⟩
            · refine bx 0 [.p, .l 0 3, .p, .c true, .p, .l 0 4, .p, .p, .p, .c true, .p, .l 0 0, .p, .c true, .p, .p, .p, .p, .p, .p, .p, .p, .p, .p, .p] (gA (hI.grp 0 rfl)) _ (bC (bndEq hc25) (bC (bndEq hc26) (bZ (bndEq hc27)))) (ro ?_)
              replace H := Option.some.inj H
              subst H
              exact gr Try.func99 ⟨rfl, hI.pn⟩
            · replace H := cond_some H
              rcases H with ⟨hc28, H⟩ | ⟨hc28, H⟩
              · refine bx 0 [.p, .l 0 3, .p, .c true, .p, .l 0 4, .p, .p, .p, .c true, .p, .l 0 0, .p, .c false, .p, .l 0 2, .p, .c true, .p, .l 0 2, .p, .p, .p, .p, .p] (gA (hI.grp 0 rfl)) _ (bC (bndEq hc25) (bC (bndEq hc26) (bC (bndEq hc27) (bZ (bndEq hc28))))) (ro ?_)
                replace H := Option.some.inj H
                subst H
                exact gr Try.func99 ⟨rfl, hI.pn⟩
              · refine bx 0 [.p, .l 0 3, .p, .c true, .p, .l 0 4, .p, .p, .p, .c true, .p, .l 0 0, .p, .c false, .p, .l 0 2, .p, .c false, .p, .p, .p, .p, .p, .p, .p] (gA (hI.grp 0 rfl)) _ (bC (bndEq hc25) (bC (bndEq hc26) (bC (bndEq hc27) (bZ (bndEq hc28))))) (ro ?_)
                replace H := Option.some.inj H
                subst H
                exact gr Try.func99 ⟨rfl, hI.pn⟩
          · refine bx 0 [.p, .l 0 3, .p, .c true, .p, .l 0 4, .p, .p, .p, .c false, .p, .p, .p, .p, .p, .p, .p, .p, .p, .p, .p, .p, .p, .p, .p] (gA (hI.grp 0 rfl)) _ (bC (bndEq hc25) (bZ (bndEq hc26))) (ro ?_)
            replace H := Option.some.inj H
            subst H
            exact gr Try.func99 ⟨rfl, hI.pn⟩
        · refine bx 0 [.p, .l 0 3, .p, .c false, .p, .p, .p, .p, .p, .p, .p, .p, .p, .p, .p, .p, .p, .p, .p, .p, .p, .p, .p, .p, .p] (gA (hI.grp 0 rfl)) _ (bZ (bndEq hc25)) (ro ?_)
          replace H := Option.some.inj H
          subst H
          exact gr Try.func99 ⟨rfl, hI.pn⟩
      · refine ge hc20 (go_skip (go_seq ?_))
        refine go_seq_join (o := r) (fun b33 f w => ∃ (j : Nat → Value), f = updL j [(2, vP b2 0), (63, vB b33)] ∧ Inv M w [.blk b2 89 [vI a0.Kind, .string a0.Key, vI a0.Arg, vB a0.Got, vS A0z0 a0.Vals.length c0z0]]) (fun b33 => wire_sound.j2 a0 b33) ?_ (fun hJ34 => ?_)
        · clear H hI
          rintro b33 _ _ ⟨_, rfl, hI⟩ H
          replace H := cond_some H
          rcases H with ⟨hc35, H⟩ | ⟨hc35, H⟩
          · refine gt hc35 (go_seq (rp 1 ?_))
            replace H := Option.some.inj H
            subst H
            exact gr Try.func99 ⟨rfl, hI.pn⟩
          · refine ge hc35 (go_skip (go_seq (go_seq (rg [.p, .l 0 3, .p] (gA (hI.grp 0 rfl)) ?_))))
            replace H := cond_some H
            rcases H with ⟨hc37, H⟩ | ⟨hc37, H⟩
            · refine gt hc37 (go_seq (rg [.p, .l 0 4, .p, .p, .p] (gA (hI.grp 0 rfl)) ?_))
              replace H := Option.some.inj H
              subst H
              exact gr Try.func99 ⟨rfl, hI.pn⟩
            · refine ge hc37 (go_skip (go_seq (r_in (bg 0 [.p, .l 0 0] (gA (hI.grp 0 rfl)) ?_))))
              replace H := bind_some H
              obtain ⟨y40, hy41, H⟩ := H
              refine oe 2 rfl ?_
              refine ec (enter112 _) (wire_shape_calls a0.Kind (memOf _) _ (Inv.start _) _ hy41) ?_
              rintro _ _ ⟨rfl, hI'⟩
              replace hI := hI.call0 hI'
              clear hI'
              refine ⟨_, rfl, ?_⟩
              refine bp 3 5 (ro (go_seq ?_))
              refine go_seq_join (o := r) (fun b46 f w => ∃ (j : Nat → Value), f = updL j [(2, vP b2 0), (88, vB b46)] ∧ Inv M w [.blk b2 89 [vI a0.Kind, .string a0.Key, vI a0.Arg, vB a0.Got, vS A0z0 a0.Vals.length c0z0]]) (fun b46 => wire_sound.j3 a0 b46) ?_ (fun hJ47 => ?_)
              · clear H hI
                rintro b46 _ _ ⟨_, rfl, hI⟩ H
                replace H := cond_some H
                rcases H with ⟨hc48, H⟩ | ⟨hc48, H⟩
                · refine gt hc48 (go_seq (rp 1 ?_))
                  replace H := Option.some.inj H
                  subst H
                  exact gr Try.func99 ⟨rfl, hI.pn⟩
                · refine ge hc48 (go_skip (go_seq (go_seq (rp 1 (go_block ?_)))))
                  refine go_iter (wire_sound.s4 a0) (fun x130 f w => ∃ (j : Nat → Value), f = updL j [(2, vP b2 0), (7, vI x130)] ∧ Inv M w [.blk b2 89 [vI a0.Kind, .string a0.Key, vI a0.Arg, vB a0.Got, vS A0z0 a0.Vals.length c0z0]]) H ⟨_, at_, hI⟩ ?_
                  clear H hI
                  rintro x130 _ _ o1 H ⟨_, rfl, hI⟩ hin1 hout1
                  refine go_seq ?_
                  refine go_seq_join (o := o1) (fun b135 f w => ∃ (j : Nat → Value), f = updL j [(2, vP b2 0), (7, vI x130), (98, vB b135)] ∧ Inv M w [.blk b2 89 [vI a0.Kind, .string a0.Key, vI a0.Arg, vB a0.Got, vS A0z0 a0.Vals.length c0z0]]) (fun b135 => wire_sound.j5 a0 x130 b135) ?_ (fun hJ136 => ?_)
                  · clear H hI
                    rintro b135 _ _ ⟨_, rfl, hI⟩ H
                    replace H := cond_some H
                    rcases H with ⟨hc137, H⟩ | ⟨hc137, H⟩
                    · refine gt hc137 (go_skip (go_seq (go_block (go_seq ?_))))
                      replace H := must_some H
                      obtain ⟨g152, H⟩ := H
                      obtain ⟨b153, q154, rfl, _⟩ := rdS.fopen hr0z0 rfl g152
                      replace H := must_some H
                      obtain ⟨g155, H⟩ := H
                      refine dx [.p, .l 0 4, .p, .p, .x, .l 1 0, .p, .l 0 4, .p, .x, .l 2 0, .p] (gC (hI.grp 0 rfl) (hI.lies (rdS.flook hr0z0 rfl g152)) (hI.lies (rdS.flook hr0z0 rfl g155))) _ (bC g152 (bZ g155)) hI ?_
                      clear hI
                      intro _ hI
                      replace H := cond_some H
                      rcases H with ⟨hc156, H⟩ | ⟨hc156, H⟩
                      · refine gt hc156 (go_seq (rp 1 ?_))
                        replace H := out_some H
                        obtain ⟨_, H, he1⟩ := H
                        have he := (hout1 _ he1).symm
                        subst he
                        replace H := Option.some.inj H
                        subst H
                        exact gr Try.func99 ⟨rfl, hI.pn⟩
                      · refine ge hc156 (go_skip (go_inBlock (rp 3 ?_)))
                        exact hin1 _ (Option.some.inj H).symm _ _ ⟨_, at_, hI⟩
                    · refine ge hc137 ?_
                      refine go_exit rfl ?_
                      refine go_seq (rp 1 ?_)
                      replace H := out_some H
                      obtain ⟨_, H, he1⟩ := H
                      have he := (hout1 _ he1).symm
                      subst he
                      replace H := Option.some.inj H
                      subst H
                      exact gr Try.func99 ⟨rfl, hI.pn⟩
                  · refine r_in ?_
                    replace H := cond_some H
                    rcases H with ⟨hc157, H⟩ | ⟨hc157, H⟩
                    · refine bx 0 [.p, .l 0 0, .p, .c true, .p, .p, .l 0 4, .p, .p, .p] (gA (hI.grp 0 rfl)) _ (bZ (bndEq hc157)) (ro ?_)
                      exact hJ136 (decide (x130 < (a0.Vals.length : Int))) _ _ ⟨_, at_, hI⟩ H
                    · refine bx 0 [.p, .l 0 0, .p, .c false, .p, .p, .p, .p, .p, .p] (gA (hI.grp 0 rfl)) _ (bZ (bndEq hc157)) (ro ?_)
                      exact hJ136 false _ _ ⟨_, at_, hI⟩ H
              · refine r_in ?_
                replace H := cond_some H
                rcases H with ⟨hc158, H⟩ | ⟨hc158, H⟩
                · refine bx 0 [.p, .l 0 4, .p, .p, .p, .c true, .p, .p, .p, .p, .p, .p] (gA (hI.grp 0 rfl)) _ (bZ (bndEq hc158)) (ro ?_)
                  exact hJ47 true _ _ ⟨_, at_, hI⟩ H
                · refine bx 0 [.p, .l 0 4, .p, .p, .p, .c false, .p, .l 0 4, .p, .p, .p, .p] (gA (hI.grp 0 rfl)) _ (bZ (bndEq hc158)) (ro ?_)
                  exact hJ47 (decide ((a0.Vals.length : Int) > y40.2)) _ _ ⟨_, at_, hI⟩ H
        · refine r_in ?_
          replace H := cond_some H
          rcases H with ⟨hc159, H⟩ | ⟨hc159, H⟩
          · refine bx 0 [.p, .l 0 2, .p, .c true, .p, .p, .p, .p, .p, .p] (gA (hI.grp 0 rfl)) _ (bZ (bndEq hc159)) (ro ?_)
            exact hJ34 true _ _ ⟨_, at_, hI⟩ H
          · refine bx 0 [.p, .l 0 2, .p, .c false, .p, .l 0 3, .p, .p, .p, .p] (gA (hI.grp 0 rfl)) _ (bZ (bndEq hc159)) (ro ?_)
            exact hJ34 (a0.Got != (a1 == 1)) _ _ ⟨_, at_, hI⟩ H
  · refine r_in ?_
    replace H := cond_some H
    rcases H with ⟨hc160, H⟩ | ⟨hc160, H⟩
    · refine bx 0 [.p, .l 0 0, .p, .c true, .p, .p, .p, .p, .p, .p, .p, .p, .p, .p, .p, .p, .p, .p, .p] (gA (hI.grp 0 rfl)) _ (bZ (bndEq hc160)) (ro ?_)
      exact hJ12 true _ _ ⟨_, at_, hI⟩ H
    · replace H := cond_some H
      rcases H with ⟨hc161, H⟩ | ⟨hc161, H⟩
      · refine bx 0 [.p, .l 0 0, .p, .c false, .p, .l 0 0, .p, .p, .c true, .p, .p, .p, .p, .p, .p, .p, .p, .p, .p] (gA (hI.grp 0 rfl)) _ (bC (bndEq hc160) (bZ (bndEq hc161))) (ro ?_)
        exact hJ12 true _ _ ⟨_, at_, hI⟩ H
      · replace H := cond_some H
        rcases H with ⟨hc162, H⟩ | ⟨hc162, H⟩
        · refine bx 0 [.p, .l 0 0, .p, .c false, .p, .l 0 0, .p, .p, .c false, .p, .l 0 1, .p, .p, .c true, .p, .p, .p, .p, .p] (gA (hI.grp 0 rfl)) _ (bC (bndEq hc160) (bC (bndEq hc161) (bZ (bndEq hc162)))) (ro ?_)
          exact hJ12 true _ _ ⟨_, at_, hI⟩ H
        · refine bx 0 [.p, .l 0 0, .p, .c false, .p, .l 0 0, .p, .p, .c false, .p, .l 0 1, .p, .p, .c false, .p, .l 0 1, .p, .p, .p] (gA (hI.grp 0 rfl)) _ (bC (bndEq hc160) (bC (bndEq hc161) (bZ (bndEq hc162)))) (ro ?_)
          exact hJ12 (decide ((a0.Key.size : Int) > 32)) _ _ ⟨_, at_, hI⟩ H
theorem enter98 (a : Array Value) : Sem.pureRun Try.prog (callFunc 98 a) = some (.enter 98 a) := by kernel_rfl
theorem wire_Check_1zcalls (a0 : Call) (A0z0 : Option Addr) (c0z0 : Nat) (b1z : Nat) (a1 : Event) (A1z0 : Option Addr) (c1z0 : Nat) (M : Mem) (w : World) (hI : Inv M w []) (hr0z0 : rdS (tInt .i64) M.blk A0z0 a0.Vals) (hl0z0 : a0.Vals.length ≤ c0z0) (hb1z : Lies M.blk (b1z, 0, [vI a1.Proc, vI a1.Kind, vS A1z0 a1.Calls.length c1z0])) (hr1z0 : rdS kCall M.blk A1z0 a1.Calls) (hl1z0 : a1.Calls.length ≤ c1z0) (r : Bool) (H : wire_Check_1 a0 a1 = some r) :
    Calls Try.prog 98 #[.agg #[vI a0.Kind, .string a0.Key, vI a0.Arg, vB a0.Got, vS A0z0 a0.Vals.length c0z0], vP b1z 0] w fun e w' => e = .returned (vB r) ∧ Inv M w' [] := by
  refine cg Try.func98 ?_
  intro cs
  unfold wire_Check_1 at H
  refine go_seq (r_in (oe 0 rfl ?_))
  refine e_box 89 _ (.agg #[vI a0.Kind, .string a0.Key, vI a0.Arg, vB a0.Got, vS A0z0 a0.Vals.length c0z0]) [vI a0.Kind, .string a0.Key, vI a0.Arg, vB a0.Got, vS A0z0 a0.Vals.length c0z0] rfl (by kernel_rfl) rfl hI ?_
  clear hI
  intro b2 _ hI
  refine bp 1 1 (ro (go_seq (r_in (bg 0 [.l 0 0, .p, .l 1 1] (gB (hI.grp 0 rfl) (hI.lies hb1z)) ?_))))
  replace H := bind_some H
  obtain ⟨y5, hy6, H⟩ := H
  refine oe 3 rfl ?_
  refine ec (enter99 _) (wire_sound_calls a0 A0z0 c0z0 a1.Kind (memOf _) _ (Inv.start _) (hI.rd hr0z0) hl0z0 _ hy6) ?_
  rintro _ _ ⟨rfl, hI'⟩
  replace hI := hI.call0 hI'
  clear hI'
  refine ⟨_, rfl, ?_⟩
  refine bp 4 2 (ro ?_)
  replace H := Option.some.inj H
  subst H
  exact gr Try.func98 ⟨rfl, hI.pn⟩
theorem enter111 (a : Array Value) : Sem.pureRun Try.prog (callFunc 111 a) = some (.enter 111 a) := by kernel_rfl
theorem slices_IndexFunc_Call_wire_Check_1zcalls (A0z : Option Addr) (c0z : Nat) (a0 : List Call) (b1c0z : Nat) (a1c0 : Event) (A1c0z0 : Option Addr) (c1c0z0 : Nat) (M : Mem) (w : World) (hI : Inv M w []) (hr0z : rdS kCall M.blk A0z a0) (hl0z : a0.length ≤ c0z) (hb1c0z : Lies M.blk (b1c0z, 0, [vI a1c0.Proc, vI a1c0.Kind, vS A1c0z0 a1c0.Calls.length c1c0z0])) (hr1c0z0 : rdS kCall M.blk A1c0z0 a1c0.Calls) (hl1c0z0 : a1c0.Calls.length ≤ c1c0z0) (r : Int) (H : slices_IndexFunc_Call_wire_Check_1 a0 a1c0 = some r) :
    Calls Try.prog 111 #[vS A0z a0.length c0z, .func (.func 98) #[] #[vP b1c0z 0]] w fun e w' => e = .returned (vI r) ∧ Inv M w' [] := by
  refine cg Try.func111 ?_
  intro cs
  unfold slices_IndexFunc_Call_wire_Check_1 at H
  refine go_seq (rp 1 (go_seq (go_seq (rp 3 (go_block ?_)))))
  refine go_iter (slices_IndexFunc_Call_wire_Check_1.s1 a0 a1c0) (fun x130 f w => ∃ (j : Nat → Value), f = updL j [(0, vS A0z a0.length c0z), (1, .func (.func 98) #[] #[vP b1c0z 0]), (7, vI (a0.length : Int)), (8, vI x130)] ∧ Inv M w []) H ⟨_, at_, hI⟩ ?_
  clear H hI
  rintro x130 _ _ o1 H ⟨_, rfl, hI⟩ hin1 hout1
  refine go_seq (rp 1 (go_seq ?_))
  replace H := cond_some H
  rcases H with ⟨hc132, H⟩ | ⟨hc132, H⟩
  · refine gt hc132 (go_skip (go_seq (go_block (go_seq (rp 2 (go_seq (r_in ?_)))))))
    replace H := must_some H
    obtain ⟨g171, H⟩ := H
    obtain ⟨b175, q176, rfl, cs174, hk173, hg172⟩ := rdS.open hr0z rfl g171
    obtain ⟨_, _, rfl, rfl, ⟨_, _, rfl, rfl, ⟨_, _, rfl, rfl, ⟨_, _, rfl, rfl, ⟨A177, c178, rfl, hl180, hr179⟩⟩⟩⟩⟩ := hk173
    refine bx 0 [.p, .p, .p, .x, .l 0 0] (gA (hI.lies hg172)) _ (bZ g171) ?_
    replace H := bind_some H
    obtain ⟨y181, hy182, H⟩ := H
    refine oe 5 rfl ?_
    refine e_callf _ _ _ 98 #[] #[vP b1c0z 0] #[.agg #[vI ((idx a0 x130).Kind), .string ((idx a0 x130).Key), vI ((idx a0 x130).Arg), vB ((idx a0 x130).Got), vS A177 (((idx a0 x130).Vals).length) c178]] #[.agg #[vI ((idx a0 x130).Kind), .string ((idx a0 x130).Key), vI ((idx a0 x130).Arg), vB ((idx a0 x130).Got), vS A177 (((idx a0 x130).Vals).length) c178], vP b1c0z 0] rfl (by kernel_rfl) (by kernel_rfl) (by kernel_rfl) (enter98 _) (wire_Check_1zcalls (idx a0 x130) A177 c178 b1c0z a1c0 A1c0z0 c1c0z0 (memOf _) _ (Inv.start _) (hI.rd hr179) hl180 (Lies.mono hb1c0z hI.fix) (hI.rd hr1c0z0) hl1c0z0 _ hy182) ?_
    rintro _ _ ⟨rfl, hI'⟩
    replace hI := hI.call0 hI'
    clear hI'
    refine ⟨_, rfl, ?_⟩
    refine ro ?_
    replace H := cond_some H
    rcases H with ⟨hc183, H⟩ | ⟨hc183, H⟩
    · refine gt hc183 (go_seq (rp 2 ?_))
      replace H := out_some H
      obtain ⟨_, H, he1⟩ := H
      have he := (hout1 _ he1).symm
      subst he
      replace H := Option.some.inj H
      subst H
      exact gr Try.func111 ⟨rfl, hI⟩
    · refine ge hc183 (go_skip (go_inBlock (rp 2 ?_)))
      exact hin1 _ (Option.some.inj H).symm _ _ ⟨_, at_, hI⟩
  · refine ge hc132 ?_
    refine go_exit rfl ?_
    refine go_seq (rp 1 ?_)
    replace H := out_some H
    obtain ⟨_, H, he1⟩ := H
    have he := (hout1 _ he1).symm
    subst he
    replace H := Option.some.inj H
    subst H
    exact gr Try.func111 ⟨rfl, hI⟩
theorem enter97 (a : Array Value) : Sem.pureRun Try.prog (callFunc 97 a) = some (.enter 97 a) := by kernel_rfl
theorem slices_ContainsFunc_Call_wire_Check_1zcalls (A0z : Option Addr) (c0z : Nat) (a0 : List Call) (b1c0z : Nat) (a1c0 : Event) (A1c0z0 : Option Addr) (c1c0z0 : Nat) (M : Mem) (w : World) (hI : Inv M w []) (hr0z : rdS kCall M.blk A0z a0) (hl0z : a0.length ≤ c0z) (hb1c0z : Lies M.blk (b1c0z, 0, [vI a1c0.Proc, vI a1c0.Kind, vS A1c0z0 a1c0.Calls.length c1c0z0])) (hr1c0z0 : rdS kCall M.blk A1c0z0 a1c0.Calls) (hl1c0z0 : a1c0.Calls.length ≤ c1c0z0) (r : Bool) (H : slices_ContainsFunc_Call_wire_Check_1 a0 a1c0 = some r) :
    Calls Try.prog 97 #[vS A0z a0.length c0z, .func (.func 98) #[] #[vP b1c0z 0]] w fun e w' => e = .returned (vB r) ∧ Inv M w' [] := by
  refine cg Try.func97 ?_
  intro cs
  unfold slices_ContainsFunc_Call_wire_Check_1 at H
  refine go_seq (rp 1 (go_seq (r_in (bp 0 2 ?_))))
  replace H := bind_some H
  obtain ⟨y3, hy4, H⟩ := H
  refine oe 2 rfl ?_
  refine ec (enter111 _) (slices_IndexFunc_Call_wire_Check_1zcalls A0z c0z a0 b1c0z a1c0 A1c0z0 c1c0z0 (memOf _) _ (Inv.start _) (hI.rd hr0z) hl0z (Lies.mono hb1c0z hI.fix) (hI.rd hr1c0z0) hl1c0z0 _ hy4) ?_
  rintro _ _ ⟨rfl, hI'⟩
  replace hI := hI.call0 hI'
  clear hI'
  refine ⟨_, rfl, ?_⟩
  refine bp 3 2 (ro ?_)
  replace H := Option.some.inj H
  subst H
  exact gr Try.func97 ⟨rfl, hI⟩
theorem enter78 (a : Array Value) : Sem.pureRun Try.prog (callFunc 78 a) = some (.enter 78 a) := by kernel_rfl
theorem wire_Check_calls (A0z : Option Addr) (c0z : Nat) (a0 : List Event) (M : Mem) (w : World) (hI : Inv M w []) (hr0z : rdS kEvent M.blk A0z a0) (hl0z : a0.length ≤ c0z) (r : Int) (H : wire_Check a0 = some r) :
    Calls Try.prog 78 #[vS A0z a0.length c0z] w fun e w' => e = .returned (vI r) ∧ Inv M w' [] := by
  refine cg Try.func78 ?_
  intro cs
  unfold wire_Check at H
  refine go_seq (rp 1 (go_seq (go_seq (rp 3 ?_))))
  replace H := cond_some H
  rcases H with ⟨hc2, H⟩ | ⟨hc2, H⟩
  · refine gt hc2 (go_seq (rp 1 ?_))
    replace H := Option.some.inj H
    subst H
    exact gr Try.func78 ⟨rfl, hI⟩
  · refine ge hc2 (go_skip (go_seq (go_seq (rp 3 (go_block ?_)))))
    refine go_iter (wire_Check.s1 a0) (fun x172 f w => ∃ (j : Nat → Value), f = updL j [(8, vS A0z a0.length c0z), (9, vI (a0.length : Int)), (10, vI x172)] ∧ Inv M w []) H ⟨_, at_, hI⟩ ?_
    clear H hI
    rintro x172 _ _ o1 H ⟨_, rfl, hI⟩ hin1 hout1
    refine go_seq (rp 1 (go_seq ?_))
    replace H := cond_some H
    rcases H with ⟨hc174, H⟩ | ⟨hc174, H⟩
    · refine gt hc174 (go_skip (go_seq (go_block (go_seq (r_in ?_)))))
      replace H := must_some H
      obtain ⟨g222, H⟩ := H
      obtain ⟨b226, q227, rfl, cs225, hk224, hg223⟩ := rdS.open hr0z rfl g222
      obtain ⟨_, _, rfl, rfl, ⟨_, _, rfl, rfl, ⟨A228, c229, rfl, hl231, hr230⟩⟩⟩ := hk224
      refine bx 0 [.x, .l 0 0] (gA (hI.lies hg223)) _ (bZ g222) (oe 2 rfl ?_)
      refine e_alloc 84 (.agg #[vI 0, vI 0, vS none 0 0]) [vI 0, vI 0, vS none 0 0] rfl (by kernel_rfl) rfl hI ?_
      clear hI
      intro b232 _ hI
      refine oe 3 rfl ?_
      refine e_store 84 _ _ 0 b232 84 [vI 0, vI 0, vS none 0 0] [vI ((idx a0 x172).Proc), vI ((idx a0 x172).Kind), vS A228 (((idx a0 x172).Calls).length) c229] 0 (.agg #[vI ((idx a0 x172).Proc), vI ((idx a0 x172).Kind), vS A228 (((idx a0 x172).Calls).length) c229]) rfl (by kernel_rfl) (by kernel_rfl) (by kernel_rfl) (by kernel_rfl) hI rfl (by kernel_rfl) (by kernel_rfl) ?_
      clear hI
      intro _ hI
      refine ro (go_seq ?_)
      refine go_seq_join (o := o1) (fun b239 f w => ∃ (j : Nat → Value), f = updL j [(4, vP b232 0), (8, vS (some ⟨b226, q227, none⟩) a0.length c0z), (9, vI (a0.length : Int)), (10, vI x172), (27, vB b239)] ∧ Inv M w [.blk b232 84 [vI ((idx a0 x172).Proc), vI ((idx a0 x172).Kind), vS A228 (((idx a0 x172).Calls).length) c229]]) (fun b239 => wire_Check.j2 a0 x172 b239) ?_ (fun hJ240 => ?_)
      · clear H hI
        rintro b239 _ _ ⟨_, rfl, hI⟩ H
        replace H := cond_some H
        rcases H with ⟨hc241, H⟩ | ⟨hc241, H⟩
        · refine gt hc241 (go_seq (rp 1 ?_))
          replace H := out_some H
          obtain ⟨_, H, he1⟩ := H
          have he := (hout1 _ he1).symm
          subst he
          replace H := Option.some.inj H
          subst H
          exact gr Try.func78 ⟨rfl, hI.pn⟩
        · refine ge hc241 (go_skip (go_seq (r_in (bg 0 [.p, .l 0 2, .p] (gA (hI.grp 0 rfl)) ?_))))
          replace H := bind_some H
          obtain ⟨y244, hy245, H⟩ := H
          refine oe 3 rfl ?_
          refine ec (enter97 _) (slices_ContainsFunc_Call_wire_Check_1zcalls A228 c229 ((idx a0 x172).Calls) b232 (idx a0 x172) A228 c229 (memOf _) _ (Inv.start _) (hI.rd hr230) hl231 (Grp.lies (hI.grp 0 rfl)) (hI.rd hr230) hl231 _ hy245) ?_
          rintro _ _ ⟨rfl, hI'⟩
          replace hI := hI.call0 hI'
          clear hI'
          refine ⟨_, rfl, ?_⟩
          refine ro ?_
          replace H := cond_some H
          rcases H with ⟨hc246, H⟩ | ⟨hc246, H⟩
          · refine gt hc246 (go_seq (rp 1 ?_))
            replace H := out_some H
            obtain ⟨_, H, he1⟩ := H
            have he := (hout1 _ he1).symm
            subst he
            replace H := Option.some.inj H
            subst H
            exact gr Try.func78 ⟨rfl, hI.pn⟩
          · refine ge hc246 (go_skip (go_inBlock (rp 2 ?_)))
            exact hin1 _ (Option.some.inj H).symm _ _ ⟨_, at_, hI.pn⟩
      · refine r_in ?_
        replace H := cond_some H
        rcases H with ⟨hc247, H⟩ | ⟨hc247, H⟩
        · refine bx 0 [.p, .l 0 1, .p, .c true, .p, .p, .p, .p, .p, .p, .p, .p, .p, .p] (gA (hI.grp 0 rfl)) _ (bZ (bndEq hc247)) (ro ?_)
          exact hJ240 true _ _ ⟨_, at_, hI⟩ H
        · replace H := cond_some H
          rcases H with ⟨hc248, H⟩ | ⟨hc248, H⟩
          · refine bx 0 [.p, .l 0 1, .p, .c false, .p, .l 0 1, .p, .p, .c true, .p, .p, .p, .p, .p] (gA (hI.grp 0 rfl)) _ (bC (bndEq hc247) (bZ (bndEq hc248))) (ro ?_)
            exact hJ240 true _ _ ⟨_, at_, hI⟩ H
          · refine bx 0 [.p, .l 0 1, .p, .c false, .p, .l 0 1, .p, .p, .c false, .p, .l 0 2, .p, .p, .p] (gA (hI.grp 0 rfl)) _ (bC (bndEq hc247) (bZ (bndEq hc248))) (ro ?_)
            exact hJ240 (decide ((((idx a0 x172).Calls).length : Int) > 16)) _ _ ⟨_, at_, hI⟩ H
    · refine ge hc174 ?_
      refine go_exit rfl ?_
      refine go_seq (rp 1 ?_)
      replace H := out_some H
      obtain ⟨_, H, he1⟩ := H
      have he := (hout1 _ he1).symm
      subst he
      replace H := Option.some.inj H
      subst H
      exact gr Try.func78 ⟨rfl, hI⟩
theorem enter42 (a : Array Value) : Sem.pureRun Try.prog (callFunc 42 a) = some (.enter 42 a) := by kernel_rfl
theorem index_calls_calls (a0 : History) (A0z0 : Option Addr) (c0z0 : Nat) (A0z1 : Option Addr) (c0z1 : Nat) (a1 : Txn) (A1z0 : Option Addr) (c1z0 : Nat) (M : Mem) (w : World) (hI : Inv M w []) (N : BM) (hN : Sub N M.blk) (hr0z0 : rdS tStr N A0z0 a0.Keys) (hl0z0 : a0.Keys.length ≤ c0z0) (hr0z1 : rdS kTxn N A0z1 a0.Txns) (hl0z1 : a0.Txns.length ≤ c0z1) (hr1z0 : rdS kOp N A1z0 a1.Ops) (hl1z0 : a1.Ops.length ≤ c1z0) (r : Event × Bool) (H : index_calls a0 a1 = some r) :
    Calls Try.prog 42 #[.agg #[vS A0z0 a0.Keys.length c0z0, vS A0z1 a0.Txns.length c0z1], .agg #[vI a1.Proc, vI a1.Status, vI a1.From, vI a1.To, vS A1z0 a1.Ops.length c1z0]] w fun e w' => ∃ (A577 : Option Addr), ∃ (c578 : Nat), e = .returned (.tuple #[.agg #[vI r.1.Proc, vI r.1.Kind, vS A577 r.1.Calls.length c578], vB r.2]) ∧ Inv M w' [.row (kCallL N) 89 A577 r.1.Calls.length c578 r.1.Calls] := by
  refine cg Try.func42 ?_
  intro cs
  unfold index_calls at H
  refine go_seq (r_in (oe 0 rfl ?_))
  refine e_box 25 _ (.agg #[vS A0z0 a0.Keys.length c0z0, vS A0z1 a0.Txns.length c0z1]) [vS A0z0 a0.Keys.length c0z0, vS A0z1 a0.Txns.length c0z1] rfl (by kernel_rfl) rfl hI ?_
  clear hI
  intro b4 _ hI
  refine oe 1 rfl ?_
  refine e_box 41 _ (.agg #[vI a1.Proc, vI a1.Status, vI a1.From, vI a1.To, vS A1z0 a1.Ops.length c1z0]) [vI a1.Proc, vI a1.Status, vI a1.From, vI a1.To, vS A1z0 a1.Ops.length c1z0] rfl (by kernel_rfl) rfl hI ?_
  clear hI
  intro b5 _ hI
  refine oe 2 rfl ?_
  refine e_alloc 84 (.agg #[vI 0, vI 0, vS none 0 0]) [vI 0, vI 0, vS none 0 0] rfl (by kernel_rfl) rfl hI ?_
  clear hI
  intro b6 _ hI
  refine bp 3 1 (ro (go_seq (r_in (bg 0 [.p, .l 0 1, .p] (gA (hI.grp 1 rfl)) (oe 3 rfl ?_)))))
  refine e_alloc 84 (.agg #[vI 0, vI 0, vS none 0 0]) [vI 0, vI 0, vS none 0 0] rfl (by kernel_rfl) rfl hI ?_
  clear hI
  intro b8 _ hI
  refine oe 4 rfl ?_
  refine e_store 84 _ _ 3 b8 84 [vI 0, vI 0, vS none 0 0] [vI 0, vI a1.Status, vS none 0 0] 0 (.agg #[vI 0, vI a1.Status, vS none 0 0]) rfl (by kernel_rfl) (by kernel_rfl) (by kernel_rfl) (by kernel_rfl) hI rfl (by kernel_rfl) (by kernel_rfl) ?_
  clear hI
  intro _ hI
  refine ro (go_seq (go_seq (rg [.p, .l 0 4, .p, .p] (gA (hI.grp 1 rfl)) (go_block ?_))))
  refine go_iter (index_calls.s1 a0 a1) (fun (l421, x424) f w => ∃ (j : Nat → Value) (A422 : Option Addr) (c423 : Nat), f = updL j [(2, vP b4 0), (4, vP b6 0), (6, vP b8 0), (13, vS A1z0 a1.Ops.length c1z0), (14, vI (a1.Ops.length : Int)), (15, vI x424)] ∧ Inv M w [.blk b4 25 [vS A0z0 a0.Keys.length c0z0, vS A0z1 a0.Txns.length c0z1], .blk b6 84 [vI 0, vI 0, vS none 0 0], .blk b8 84 [vI 0, vI a1.Status, vS A422 l421.length c423], .row (kCallL N) 89 A422 l421.length c423 l421]) H ⟨_, none, 0, at_, (hI.nilrow (kCallL N) 89).pick [0, 2, 3, 4] (by decide) rfl⟩ ?_
  clear H hI
  rintro ⟨l421, x424⟩ _ _ o1 H ⟨_, A422, c423, rfl, hI⟩ hin1 hout1
  refine go_seq (rp 1 (go_seq ?_))
  replace H := cond_some H
  rcases H with ⟨hc426, H⟩ | ⟨hc426, H⟩
  · refine gt hc426 (go_skip (go_seq ?_))
    refine go_block_join (o := o1) (fun (_ : Unit) f w => ∃ (j : Nat → Value) (A509 : Option Addr) (c510 : Nat), f = updL j [(2, vP b4 0), (4, vP b6 0), (6, vP b8 0), (13, vS A1z0 a1.Ops.length c1z0), (14, vI (a1.Ops.length : Int)), (15, vI x424)] ∧ Inv M w [.blk b4 25 [vS A0z0 a0.Keys.length c0z0, vS A0z1 a0.Txns.length c0z1], .blk b6 84 [vI 0, vI 0, vS none 0 0], .blk b8 84 [vI 0, vI a1.Status, vS A509 ((l421 ++ ([(⟨(idx a1.Ops x424).Kind, idx a0.Keys ((idx a1.Ops x424).Key), (idx a1.Ops x424).Arg, (idx a1.Ops x424).Got, (idx a1.Ops x424).Vals⟩ : Call)] : List Call)).length) c510], .row (kCallL N) 89 A509 ((l421 ++ ([(⟨(idx a1.Ops x424).Kind, idx a0.Keys ((idx a1.Ops x424).Key), (idx a1.Ops x424).Arg, (idx a1.Ops x424).Got, (idx a1.Ops x424).Vals⟩ : Call)] : List Call)).length) c510 (l421 ++ ([(⟨(idx a1.Ops x424).Kind, idx a0.Keys ((idx a1.Ops x424).Key), (idx a1.Ops x424).Arg, (idx a1.Ops x424).Got, (idx a1.Ops x424).Vals⟩ : Call)] : List Call))]) (fun (_ : Unit) => index_calls.j2 a0 a1 l421 x424) ?_ (fun hJ511 => ?_)
    · clear H hI
      rintro ⟨⟩ _ _ ⟨_, A509, c510, rfl, hI⟩ H
      refine rp 2 ?_
      exact hin1 _ (Option.some.inj H).symm _ _ ⟨_, A509, c510, at_, hI⟩
    · refine go_seq (r_in ?_)
      replace H := must_some H
      obtain ⟨g523, H⟩ := H
      obtain ⟨b527, q528, rfl, cs526, hk525, hg524⟩ := rdS.open hr1z0 rfl g523
      obtain ⟨_, _, rfl, rfl, ⟨_, _, rfl, rfl, ⟨_, _, rfl, rfl, ⟨_, _, rfl, rfl, ⟨A529, c530, rfl, hl532, hr531⟩⟩⟩⟩⟩ := hk525
      refine bx 0 [.x, .l 0 0] (gA (hI.lies (Lies.mono hg524 hN))) _ (bZ g523) (oe 2 rfl ?_)
      refine e_alloc 64 (.agg #[vI 0, vI 0, vI 0, vB false, vS none 0 0]) [vI 0, vI 0, vI 0, vB false, vS none 0 0] rfl (by kernel_rfl) rfl hI ?_
      clear hI
      intro b533 _ hI
      refine oe 3 rfl ?_
      refine e_store 64 _ _ 4 b533 64 [vI 0, vI 0, vI 0, vB false, vS none 0 0] [vI ((idx a1.Ops x424).Kind), vI ((idx a1.Ops x424).Key), vI ((idx a1.Ops x424).Arg), vB ((idx a1.Ops x424).Got), vS A529 (((idx a1.Ops x424).Vals).length) c530] 0 (.agg #[vI ((idx a1.Ops x424).Kind), vI ((idx a1.Ops x424).Key), vI ((idx a1.Ops x424).Arg), vB ((idx a1.Ops x424).Got), vS A529 (((idx a1.Ops x424).Vals).length) c530]) rfl (by kernel_rfl) (by kernel_rfl) (by kernel_rfl) (by kernel_rfl) hI rfl (by kernel_rfl) (by kernel_rfl) ?_
      clear hI
      intro _ hI
      refine ro (go_seq ?_)
      refine go_seq_join (o := o1) (fun b538 f w => ∃ (j : Nat → Value), f = updL j [(2, vP b4 0), (4, vP b6 0), (6, vP b8 0), (8, vP b533 0), (13, vS (some ⟨b527, q528, none⟩) a1.Ops.length c1z0), (14, vI (a1.Ops.length : Int)), (15, vI x424), (29, vB b538)] ∧ Inv M w [.blk b4 25 [vS A0z0 a0.Keys.length c0z0, vS A0z1 a0.Txns.length c0z1], .blk b6 84 [vI 0, vI 0, vS none 0 0], .blk b8 84 [vI 0, vI a1.Status, vS A422 l421.length c423], .row (kCallL N) 89 A422 l421.length c423 l421, .blk b533 64 [vI ((idx a1.Ops x424).Kind), vI ((idx a1.Ops x424).Key), vI ((idx a1.Ops x424).Arg), vB ((idx a1.Ops x424).Got), vS A529 (((idx a1.Ops x424).Vals).length) c530]]) (fun b538 => index_calls.j3 a0 a1 l421 x424 b538) ?_ (fun hJ539 => ?_)
      · clear H hI
        rintro b538 _ _ ⟨_, rfl, hI⟩ H
        replace H := cond_some H
        rcases H with ⟨hc540, H⟩ | ⟨hc540, H⟩
        · refine gt hc540 (go_seq (r_in (bg 0 [.l 0 0] (gA (hI.grp 2 rfl)) (oe 1 rfl ?_))))
          refine e_store 84 _ _ 1 b6 84 [vI 0, vI 0, vS none 0 0] [vI 0, vI a1.Status, vS A422 l421.length c423] 0 (.agg #[vI 0, vI a1.Status, vS A422 l421.length c423]) rfl (by kernel_rfl) (by kernel_rfl) (by kernel_rfl) (by kernel_rfl) hI rfl (by kernel_rfl) (by kernel_rfl) ?_
          clear hI
          intro _ hI
          refine bp 2 1 (ro ?_)
          replace H := out_some H
          obtain ⟨_, H, he1⟩ := H
          have he := (hout1 _ he1).symm
          subst he
          replace H := Option.some.inj H
          subst H
          exact go_return_c [(b6, 0, [vI 0, vI a1.Status, vS A422 l421.length c423])] [.c 0, .t] [.agg #[vI 0, vI a1.Status, vS A422 l421.length c423], vB false] (.tuple #[.agg #[vI 0, vI a1.Status, vS A422 l421.length c423], vB false]) Try.func42 ⟨(hI.grp 1 rfl), trivial⟩ (by kernel_rfl) (by kernel_rfl) (by kernel_rfl) (by kernel_rfl) ⟨A422, c423, rfl, hI.pick [3] (by decide) rfl⟩
        · refine ge hc540 (go_skip ?_)
          replace H := must_some H
          obtain ⟨g541, H⟩ := H
          replace H := must_some H
          obtain ⟨g546, H⟩ := H
          refine go_held (fun w => Inv M w [.blk b4 25 [vS A0z0 a0.Keys.length c0z0, vS A0z1 a0.Txns.length c0z1], .blk b6 84 [vI 0, vI 0, vS none 0 0], .blk b533 64 [vI ((idx a1.Ops x424).Kind), vI ((idx a1.Ops x424).Key), vI ((idx a1.Ops x424).Arg), vB ((idx a1.Ops x424).Got), vS A529 (((idx a1.Ops x424).Vals).length) c530]]) (by kernel_rfl) ?_
          replace hI := hI.drew'
          obtain ⟨b549, q550, rfl, _⟩ := rdS.fopen hr0z0 rfl g541
          refine hx (n := 5) [(0, .p), (2, .p), (3, .l 0 0), (4, .p), (5, .l 1 0), (6, .p), (7, .l 0 1), (8, .x), (9, .l 2 0), (10, .p), (11, .l 0 2), (12, .p), (13, .l 0 3), (14, .p), (15, .l 0 4), (16, .p)] (fun _ hS => (gC (hS.grp 2 rfl) (hS.grp 0 rfl) (hS.lies (Lies.mono (rdS.flook hr0z0 rfl g541) hN)))) (hI.pk [0, 1, 4]) _ (bZ g541) ?_
          refine held_each (n := 4) [1, 17] (by simp) (by kernel_rfl) ⟨⟨_, rfl, by kernel_rfl, ?_⟩, ⟨_, rfl, by kernel_rfl, ?_⟩, trivial⟩
          · refine (e_read (ops := #[]) [(b8, 0, [vI 0, vI a1.Status, vS A422 l421.length c423])] (.l 0 2) (vS A422 l421.length c423) [] ⟨(hI.grp 2 rfl), trivial⟩ trivial (by kernel_rfl) (by kernel_rfl) (by kernel_rfl) ⟨(hI.pk [0, 1, 4]), ?_⟩)
            refine ho (n := 3) 17 rfl (e_partsS 82 89 1 _ _ _ #[vI ((idx a1.Ops x424).Kind), .string (idx a0.Keys ((idx a1.Ops x424).Key)), vI ((idx a1.Ops x424).Arg), vB ((idx a1.Ops x424).Got), vS A529 (((idx a1.Ops x424).Vals).length) c530] [vI ((idx a1.Ops x424).Kind), .string (idx a0.Keys ((idx a1.Ops x424).Key)), vI ((idx a1.Ops x424).Arg), vB ((idx a1.Ops x424).Got), vS A529 (((idx a1.Ops x424).Vals).length) c530] rfl rfl rfl rfl (by kernel_rfl) (by kernel_rfl) (by kernel_rfl) (by kernel_rfl) hI ?_)
            clear hI
            intro b555 _ hs556 hI
            refine ⟨(hI.pk [0, 1, 4]), ?_⟩
            refine ho (n := 2) 18 rfl (e_append (kCallL N) 82 0 89 _ _ _ _ A422 l421.length c423 l421 ([(⟨(idx a1.Ops x424).Kind, idx a0.Keys ((idx a1.Ops x424).Key), (idx a1.Ops x424).Arg, (idx a1.Ops x424).Got, (idx a1.Ops x424).Vals⟩ : Call)] : List Call) b555 0 1 1 [vI ((idx a1.Ops x424).Kind), .string (idx a0.Keys ((idx a1.Ops x424).Key)), vI ((idx a1.Ops x424).Arg), vB ((idx a1.Ops x424).Got), vS A529 (((idx a1.Ops x424).Vals).length) c530] 3 [] [0, 1, 2, 4, 5] [] [.blk b4 25 [vS (some ⟨b549, q550, none⟩) a0.Keys.length c0z0, vS A0z1 a0.Txns.length c0z1], .blk b6 84 [vI 0, vI 0, vS none 0 0], .blk b8 84 [vI 0, vI a1.Status, vS A422 l421.length c423], .blk b533 64 [vI ((idx a1.Ops x424).Kind), vI ((idx a1.Ops x424).Key), vI ((idx a1.Ops x424).Arg), vB ((idx a1.Ops x424).Got), vS A529 (((idx a1.Ops x424).Vals).length) c530], .blk b555 89 [vI ((idx a1.Ops x424).Kind), .string (idx a0.Keys ((idx a1.Ops x424).Key)), vI ((idx a1.Ops x424).Arg), vB ((idx a1.Ops x424).Got), vS A529 (((idx a1.Ops x424).Vals).length) c530]] rfl (by kernel_rfl) (by kernel_rfl) rfl rfl rfl rfl rfl (by kernel_rfl) hI (by decide) rfl rfl rfl (hI.grp 5 rfl) g546 (mks_cons (mk_iso (g := fun g : Call => (g.Kind, g.Key, g.Arg, g.Got, g.Vals)) (x := (⟨(idx a1.Ops x424).Kind, idx a0.Keys ((idx a1.Ops x424).Key), (idx a1.Ops x424).Arg, (idx a1.Ops x424).Got, (idx a1.Ops x424).Vals⟩ : Call)) (mk_pair (mk_flat (k := (tInt .i64)) ((idx a1.Ops x424).Kind) [vI ((idx a1.Ops x424).Kind)] rfl) (mk_pair (mk_flat (k := tStr) (idx a0.Keys ((idx a1.Ops x424).Key)) [.string (idx a0.Keys ((idx a1.Ops x424).Key))] rfl) (mk_pair (mk_flat (k := (tInt .i64)) ((idx a1.Ops x424).Arg) [vI ((idx a1.Ops x424).Arg)] rfl) (mk_pair (mk_flat (k := tBool) ((idx a1.Ops x424).Got) [vB ((idx a1.Ops x424).Got)] rfl) (mk_lent hr531 rfl hl532)))))) mks_nil) ?_)
            clear hI
            intro A559 c560 _ hI
            replace hI := hI.pick (L' := [.row (kCallL N) 89 A559 ((l421 ++ ([(⟨(idx a1.Ops x424).Kind, idx a0.Keys ((idx a1.Ops x424).Key), (idx a1.Ops x424).Arg, (idx a1.Ops x424).Got, (idx a1.Ops x424).Vals⟩ : Call)] : List Call)).length) c560 (l421 ++ ([(⟨(idx a1.Ops x424).Kind, idx a0.Keys ((idx a1.Ops x424).Key), (idx a1.Ops x424).Arg, (idx a1.Ops x424).Got, (idx a1.Ops x424).Vals⟩ : Call)] : List Call)), .blk b4 25 [vS (some ⟨b549, q550, none⟩) a0.Keys.length c0z0, vS A0z1 a0.Txns.length c0z1], .blk b6 84 [vI 0, vI 0, vS none 0 0], .blk b8 84 [vI 0, vI a1.Status, vS A422 l421.length c423], .blk b533 64 [vI ((idx a1.Ops x424).Kind), vI ((idx a1.Ops x424).Key), vI ((idx a1.Ops x424).Arg), vB ((idx a1.Ops x424).Got), vS A529 (((idx a1.Ops x424).Vals).length) c530]]) [0, 1, 2, 3, 4] (by decide) rfl
            refine ⟨(hI.pk [1, 2, 4]), ?_⟩
            refine hg (n := 1) [(19, .p)] (fun _ hS => gO) (hI.pk [1, 2, 4]) ?_
            refine ho (n := 0) 20 rfl (e_store 82 _ _ 3 b8 84 [vI 0, vI a1.Status, vS A422 l421.length c423] [vI 0, vI a1.Status, vS A559 ((l421 ++ ([(⟨(idx a1.Ops x424).Kind, idx a0.Keys ((idx a1.Ops x424).Key), (idx a1.Ops x424).Arg, (idx a1.Ops x424).Got, (idx a1.Ops x424).Vals⟩ : Call)] : List Call)).length) c560] 2 (vS A559 ((l421 ++ ([(⟨(idx a1.Ops x424).Kind, idx a0.Keys ((idx a1.Ops x424).Key), (idx a1.Ops x424).Arg, (idx a1.Ops x424).Got, (idx a1.Ops x424).Vals⟩ : Call)] : List Call)).length) c560) rfl (by kernel_rfl) (by kernel_rfl) (by kernel_rfl) (by kernel_rfl) hI rfl (by kernel_rfl) (by kernel_rfl) ?_)
            clear hI
            intro _ hI
            refine ⟨(hI.pk [1, 2, 4]), ?_⟩
            refine hd (go_inBlock ?_)
            exact hJ511 () _ _ ⟨_, A559, c560, at_, hI.pick [1, 2, 3, 0] (by decide) rfl⟩ H
          · refine (e_partsS 82 89 1 _ _ _ #[vI ((idx a1.Ops x424).Kind), .string (idx a0.Keys ((idx a1.Ops x424).Key)), vI ((idx a1.Ops x424).Arg), vB ((idx a1.Ops x424).Got), vS A529 (((idx a1.Ops x424).Vals).length) c530] [vI ((idx a1.Ops x424).Kind), .string (idx a0.Keys ((idx a1.Ops x424).Key)), vI ((idx a1.Ops x424).Arg), vB ((idx a1.Ops x424).Got), vS A529 (((idx a1.Ops x424).Vals).length) c530] rfl rfl rfl rfl (by kernel_rfl) (by kernel_rfl) (by kernel_rfl) (by kernel_rfl) hI ?_)
            clear hI
            intro b561 _ hs562 hI
            refine ⟨(hI.pk [0, 1, 4]), ?_⟩
            refine ho (n := 3) 1 rfl (e_read (ops := #[]) [(b8, 0, [vI 0, vI a1.Status, vS A422 l421.length c423])] (.l 0 2) (vS A422 l421.length c423) [] ⟨(hI.grp 2 rfl), trivial⟩ trivial (by kernel_rfl) (by kernel_rfl) (by kernel_rfl) ⟨(hI.pk [0, 1, 4]), ?_⟩)
            refine ho (n := 2) 18 rfl (e_append (kCallL N) 82 0 89 _ _ _ _ A422 l421.length c423 l421 ([(⟨(idx a1.Ops x424).Kind, idx a0.Keys ((idx a1.Ops x424).Key), (idx a1.Ops x424).Arg, (idx a1.Ops x424).Got, (idx a1.Ops x424).Vals⟩ : Call)] : List Call) b561 0 1 1 [vI ((idx a1.Ops x424).Kind), .string (idx a0.Keys ((idx a1.Ops x424).Key)), vI ((idx a1.Ops x424).Arg), vB ((idx a1.Ops x424).Got), vS A529 (((idx a1.Ops x424).Vals).length) c530] 3 [] [0, 1, 2, 4, 5] [] [.blk b4 25 [vS (some ⟨b549, q550, none⟩) a0.Keys.length c0z0, vS A0z1 a0.Txns.length c0z1], .blk b6 84 [vI 0, vI 0, vS none 0 0], .blk b8 84 [vI 0, vI a1.Status, vS A422 l421.length c423], .blk b533 64 [vI ((idx a1.Ops x424).Kind), vI ((idx a1.Ops x424).Key), vI ((idx a1.Ops x424).Arg), vB ((idx a1.Ops x424).Got), vS A529 (((idx a1.Ops x424).Vals).length) c530], .blk b561 89 [vI ((idx a1.Ops x424).Kind), .string (idx a0.Keys ((idx a1.Ops x424).Key)), vI ((idx a1.Ops x424).Arg), vB ((idx a1.Ops x424).Got), vS A529 (((idx a1.Ops x424).Vals).length) c530]] rfl (by kernel_rfl) (by kernel_rfl) rfl rfl rfl rfl rfl (by kernel_rfl) hI (by decide) rfl rfl rfl (hI.grp 5 rfl) g546 (mks_cons (mk_iso (g := fun g : Call => (g.Kind, g.Key, g.Arg, g.Got, g.Vals)) (x := (⟨(idx a1.Ops x424).Kind, idx a0.Keys ((idx a1.Ops x424).Key), (idx a1.Ops x424).Arg, (idx a1.Ops x424).Got, (idx a1.Ops x424).Vals⟩ : Call)) (mk_pair (mk_flat (k := (tInt .i64)) ((idx a1.Ops x424).Kind) [vI ((idx a1.Ops x424).Kind)] rfl) (mk_pair (mk_flat (k := tStr) (idx a0.Keys ((idx a1.Ops x424).Key)) [.string (idx a0.Keys ((idx a1.Ops x424).Key))] rfl) (mk_pair (mk_flat (k := (tInt .i64)) ((idx a1.Ops x424).Arg) [vI ((idx a1.Ops x424).Arg)] rfl) (mk_pair (mk_flat (k := tBool) ((idx a1.Ops x424).Got) [vB ((idx a1.Ops x424).Got)] rfl) (mk_lent hr531 rfl hl532)))))) mks_nil) ?_)
            clear hI
            intro A565 c566 _ hI
            replace hI := hI.pick (L' := [.row (kCallL N) 89 A565 ((l421 ++ ([(⟨(idx a1.Ops x424).Kind, idx a0.Keys ((idx a1.Ops x424).Key), (idx a1.Ops x424).Arg, (idx a1.Ops x424).Got, (idx a1.Ops x424).Vals⟩ : Call)] : List Call)).length) c566 (l421 ++ ([(⟨(idx a1.Ops x424).Kind, idx a0.Keys ((idx a1.Ops x424).Key), (idx a1.Ops x424).Arg, (idx a1.Ops x424).Got, (idx a1.Ops x424).Vals⟩ : Call)] : List Call)), .blk b4 25 [vS (some ⟨b549, q550, none⟩) a0.Keys.length c0z0, vS A0z1 a0.Txns.length c0z1], .blk b6 84 [vI 0, vI 0, vS none 0 0], .blk b8 84 [vI 0, vI a1.Status, vS A422 l421.length c423], .blk b533 64 [vI ((idx a1.Ops x424).Kind), vI ((idx a1.Ops x424).Key), vI ((idx a1.Ops x424).Arg), vB ((idx a1.Ops x424).Got), vS A529 (((idx a1.Ops x424).Vals).length) c530]]) [0, 1, 2, 3, 4] (by decide) rfl
            refine ⟨(hI.pk [1, 2, 4]), ?_⟩
            refine hg (n := 1) [(19, .p)] (fun _ hS => gO) (hI.pk [1, 2, 4]) ?_
            refine ho (n := 0) 20 rfl (e_store 82 _ _ 3 b8 84 [vI 0, vI a1.Status, vS A422 l421.length c423] [vI 0, vI a1.Status, vS A565 ((l421 ++ ([(⟨(idx a1.Ops x424).Kind, idx a0.Keys ((idx a1.Ops x424).Key), (idx a1.Ops x424).Arg, (idx a1.Ops x424).Got, (idx a1.Ops x424).Vals⟩ : Call)] : List Call)).length) c566] 2 (vS A565 ((l421 ++ ([(⟨(idx a1.Ops x424).Kind, idx a0.Keys ((idx a1.Ops x424).Key), (idx a1.Ops x424).Arg, (idx a1.Ops x424).Got, (idx a1.Ops x424).Vals⟩ : Call)] : List Call)).length) c566) rfl (by kernel_rfl) (by kernel_rfl) (by kernel_rfl) (by kernel_rfl) hI rfl (by kernel_rfl) (by kernel_rfl) ?_)
            clear hI
            intro _ hI
            refine ⟨(hI.pk [1, 2, 4]), ?_⟩
            refine hd (go_inBlock ?_)
            exact hJ511 () _ _ ⟨_, A565, c566, at_, hI.pick [1, 2, 3, 0] (by decide) rfl⟩ H
      · refine r_in ?_
        replace H := cond_some H
        rcases H with ⟨hc567, H⟩ | ⟨hc567, H⟩
        · refine bx 0 [.p, .l 0 1, .p, .c true, .p, .p, .p, .p, .p, .p, .p] (gA (hI.grp 4 rfl)) _ (bZ (bndEq hc567)) (ro ?_)
          exact hJ539 true _ _ ⟨_, at_, hI⟩ H
        · refine bx 0 [.p, .l 0 1, .p, .c false, .p, .l 0 1, .p, .l 1 0, .p, .p, .p] (gB (hI.grp 4 rfl) (hI.grp 0 rfl)) _ (bZ (bndEq hc567)) (ro ?_)
          exact hJ539 (decide ((idx a1.Ops x424).Key ≥ (a0.Keys.length : Int))) _ _ ⟨_, at_, hI⟩ H
  · refine ge hc426 ?_
    refine go_exit rfl ?_
    refine go_seq ?_
    replace H := bind_some H
    obtain ⟨y574, hy575, H⟩ := H
    refine go_held (fun w => Inv M w [.blk b4 25 [vS A0z0 a0.Keys.length c0z0, vS A0z1 a0.Txns.length c0z1], .blk b8 84 [vI 0, vI a1.Status, vS A422 l421.length c423], .row (kCallL N) 89 A422 l421.length c423 l421]) (by kernel_rfl) ?_
    replace hI := hI.drew'
    refine hg (n := 5) [(0, .l 0 0), (1, .l 0 0)] (fun _ hS => (gA (hS.grp 1 rfl))) (hI.pk [0, 2, 3]) ?_
    refine ho (n := 4) 2 rfl (e_partsS 126 84 1 _ _ _ #[vI 0, vI a1.Status, vS A422 l421.length c423] [vI 0, vI a1.Status, vS A422 l421.length c423] rfl rfl rfl rfl (by kernel_rfl) (by kernel_rfl) (by kernel_rfl) (by kernel_rfl) hI ?_)
    clear hI
    intro b572 _ hs573 hI
    refine ⟨(hI.pk [0, 2, 3]), ?_⟩
    refine ho (n := 3) 3 rfl (ec (enter78 _) (wire_Check_calls (some ⟨b572, 0, none⟩) 1 ([(⟨0, a1.Status, l421⟩ : Event)] : List Event) (memOf _) _ (Inv.start _) (rd_parts (k := kEvent) (hI.grp 4 rfl) ⟨[vI 0, vI a1.Status, vS A422 l421.length c423], [], rfl, (rd_iso (g := fun g : Event => (g.Proc, g.Kind, g.Calls)) (x := (⟨0, a1.Status, l421⟩ : Event)) (rd_pair (c1 := [vI 0]) (c2 := [vI a1.Status, vS A422 l421.length c423]) rfl (rd_flat (k := (tInt .i64)) 0 [vI 0] rfl) (rd_pair (c1 := [vI a1.Status]) (c2 := [vS A422 l421.length c423]) rfl (rd_flat (k := (tInt .i64)) a1.Status [vI a1.Status] rfl) (rd_slice (Lends.rdS (lendsCall _) (fun b o h => hI.fix b o (hN b o h)) (hI.row 3 rfl)) (hI.rowlen 3 rfl) (hI.rowle 3 rfl))))), rfl⟩) (Nat.le_refl _) _ hy575) ?_)
    rintro _ _ ⟨rfl, hI'⟩
    replace hI := hI.call0 hI'
    clear hI'
    refine ⟨_, rfl, ?_⟩
    refine ⟨(hI.pk [0, 2, 3]), ?_⟩
    refine hg (n := 2) [(4, .p)] (fun _ hS => gO) (hI.pk [0, 2, 3]) ?_
    refine ho (n := 1) 5 rfl (e_store 84 _ _ 1 b6 84 [vI 0, vI 0, vS none 0 0] [vI 0, vI a1.Status, vS A422 l421.length c423] 0 (.agg #[vI 0, vI a1.Status, vS A422 l421.length c423]) rfl (by kernel_rfl) (by kernel_rfl) (by kernel_rfl) (by kernel_rfl) hI rfl (by kernel_rfl) (by kernel_rfl) ?_)
    clear hI
    intro _ hI
    refine ⟨(hI.pk [0, 2, 3]), ?_⟩
    refine hg (n := 0) [(6, .p)] (fun _ hS => gO) (hI.pk [0, 2, 3]) (hd ?_)
    replace H := out_some H
    obtain ⟨_, H, he1⟩ := H
    have he := (hout1 _ he1).symm
    subst he
    replace H := Option.some.inj H
    subst H
    exact go_return_c [(b6, 0, [vI 0, vI a1.Status, vS A422 l421.length c423])] [.c 0, .t] [.agg #[vI 0, vI a1.Status, vS A422 l421.length c423], vB (y574 == 0)] (.tuple #[.agg #[vI 0, vI a1.Status, vS A422 l421.length c423], vB (y574 == 0)]) Try.func42 ⟨(hI.grp 1 rfl), trivial⟩ (by kernel_rfl) (by kernel_rfl) (by kernel_rfl) (by kernel_rfl) ⟨A422, c423, rfl, hI.pick [3] (by decide) rfl⟩
theorem enter80 (a : Array Value) : Sem.pureRun Try.prog (callFunc 80 a) = some (.enter 80 a) := by kernel_rfl
theorem index_placed_1zcalls (a0 : Txn) (A0z0 : Option Addr) (c0z0 : Nat) (b1z : Nat) (a1 : Txn) (A1z0 : Option Addr) (c1z0 : Nat) (M : Mem) (w : World) (hI : Inv M w []) (hr0z0 : rdS kOp M.blk A0z0 a0.Ops) (hl0z0 : a0.Ops.length ≤ c0z0) (hb1z : Lies M.blk (b1z, 0, [vI a1.Proc, vI a1.Status, vI a1.From, vI a1.To, vS A1z0 a1.Ops.length c1z0])) (hr1z0 : rdS kOp M.blk A1z0 a1.Ops) (hl1z0 : a1.Ops.length ≤ c1z0) (r : Bool) (H : index_placed_1 a0 a1 = some r) :
    Calls Try.prog 80 #[.agg #[vI a0.Proc, vI a0.Status, vI a0.From, vI a0.To, vS A0z0 a0.Ops.length c0z0], vP b1z 0] w fun e w' => e = .returned (vB r) ∧ Inv M w' [] := by
  refine cg Try.func80 ?_
  intro cs
  unfold index_placed_1 at H
  refine go_seq (r_in (oe 0 rfl ?_))
  refine e_box 41 _ (.agg #[vI a0.Proc, vI a0.Status, vI a0.From, vI a0.To, vS A0z0 a0.Ops.length c0z0]) [vI a0.Proc, vI a0.Status, vI a0.From, vI a0.To, vS A0z0 a0.Ops.length c0z0] rfl (by kernel_rfl) rfl hI ?_
  clear hI
  intro b2 _ hI
  refine bp 1 1 (ro (go_seq (r_in ?_)))
  replace H := cond_some H
  rcases H with ⟨hc5, H⟩ | ⟨hc5, H⟩
  · replace H := cond_some H
    rcases H with ⟨hc6, H⟩ | ⟨hc6, H⟩
    · refine bx 0 [.p, .l 0 0, .p, .l 1 0, .p, .c true, .p, .l 0 3, .p, .c true, .p, .p, .p, .p, .p, .p, .p, .p] (gB (hI.grp 0 rfl) (hI.lies hb1z)) _ (bC (bndEq hc5) (bZ (bndEq hc6))) (ro ?_)
      replace H := Option.some.inj H
      subst H
      exact gr Try.func80 ⟨rfl, hI.pn⟩
    · refine bx 0 [.p, .l 0 0, .p, .l 1 0, .p, .c true, .p, .l 0 3, .p, .c false, .p, .l 0 3, .p, .l 1 2, .p, .p, .p, .p] (gB (hI.grp 0 rfl) (hI.lies hb1z)) _ (bC (bndEq hc5) (bZ (bndEq hc6))) (ro ?_)
      replace H := Option.some.inj H
      subst H
      exact gr Try.func80 ⟨rfl, hI.pn⟩
  · refine bx 0 [.p, .l 0 0, .p, .l 1 0, .p, .c false, .p, .p, .p, .p, .p, .p, .p, .p, .p, .p, .p, .p] (gB (hI.grp 0 rfl) (hI.lies hb1z)) _ (bZ (bndEq hc5)) (ro ?_)
    replace H := Option.some.inj H
    subst H
    exact gr Try.func80 ⟨rfl, hI.pn⟩
theorem enter100 (a : Array Value) : Sem.pureRun Try.prog (callFunc 100 a) = some (.enter 100 a) := by kernel_rfl
theorem slices_IndexFunc_Txn_index_placed_1zcalls (A0z : Option Addr) (c0z : Nat) (a0 : List Txn) (b1c0z : Nat) (a1c0 : Txn) (A1c0z0 : Option Addr) (c1c0z0 : Nat) (M : Mem) (w : World) (hI : Inv M w []) (hr0z : rdS kTxn M.blk A0z a0) (hl0z : a0.length ≤ c0z) (hb1c0z : Lies M.blk (b1c0z, 0, [vI a1c0.Proc, vI a1c0.Status, vI a1c0.From, vI a1c0.To, vS A1c0z0 a1c0.Ops.length c1c0z0])) (hr1c0z0 : rdS kOp M.blk A1c0z0 a1c0.Ops) (hl1c0z0 : a1c0.Ops.length ≤ c1c0z0) (r : Int) (H : slices_IndexFunc_Txn_index_placed_1 a0 a1c0 = some r) :
    Calls Try.prog 100 #[vS A0z a0.length c0z, .func (.func 80) #[] #[vP b1c0z 0]] w fun e w' => e = .returned (vI r) ∧ Inv M w' [] := by
  refine cg Try.func100 ?_
  intro cs
  unfold slices_IndexFunc_Txn_index_placed_1 at H
  refine go_seq (rp 1 (go_seq (go_seq (rp 3 (go_block ?_)))))
  refine go_iter (slices_IndexFunc_Txn_index_placed_1.s1 a0 a1c0) (fun x130 f w => ∃ (j : Nat → Value), f = updL j [(0, vS A0z a0.length c0z), (1, .func (.func 80) #[] #[vP b1c0z 0]), (7, vI (a0.length : Int)), (8, vI x130)] ∧ Inv M w []) H ⟨_, at_, hI⟩ ?_
  clear H hI
  rintro x130 _ _ o1 H ⟨_, rfl, hI⟩ hin1 hout1
  refine go_seq (rp 1 (go_seq ?_))
  replace H := cond_some H
  rcases H with ⟨hc132, H⟩ | ⟨hc132, H⟩
  · refine gt hc132 (go_skip (go_seq (go_block (go_seq (rp 2 (go_seq (r_in ?_)))))))
    replace H := must_some H
    obtain ⟨g171, H⟩ := H
    obtain ⟨b175, q176, rfl, cs174, hk173, hg172⟩ := rdS.open hr0z rfl g171
    obtain ⟨_, _, rfl, rfl, ⟨_, _, rfl, rfl, ⟨_, _, rfl, rfl, ⟨_, _, rfl, rfl, ⟨A177, c178, rfl, hl180, hr179⟩⟩⟩⟩⟩ := hk173
    refine bx 0 [.p, .p, .p, .x, .l 0 0] (gA (hI.lies hg172)) _ (bZ g171) ?_
    replace H := bind_some H
    obtain ⟨y181, hy182, H⟩ := H
    refine oe 5 rfl ?_
    refine e_callf _ _ _ 80 #[] #[vP b1c0z 0] #[.agg #[vI ((idx a0 x130).Proc), vI ((idx a0 x130).Status), vI ((idx a0 x130).From), vI ((idx a0 x130).To), vS A177 (((idx a0 x130).Ops).length) c178]] #[.agg #[vI ((idx a0 x130).Proc), vI ((idx a0 x130).Status), vI ((idx a0 x130).From), vI ((idx a0 x130).To), vS A177 (((idx a0 x130).Ops).length) c178], vP b1c0z 0] rfl (by kernel_rfl) (by kernel_rfl) (by kernel_rfl) (enter80 _) (index_placed_1zcalls (idx a0 x130) A177 c178 b1c0z a1c0 A1c0z0 c1c0z0 (memOf _) _ (Inv.start _) (hI.rd hr179) hl180 (Lies.mono hb1c0z hI.fix) (hI.rd hr1c0z0) hl1c0z0 _ hy182) ?_
    rintro _ _ ⟨rfl, hI'⟩
    replace hI := hI.call0 hI'
    clear hI'
    refine ⟨_, rfl, ?_⟩
    refine ro ?_
    replace H := cond_some H
    rcases H with ⟨hc183, H⟩ | ⟨hc183, H⟩
    · refine gt hc183 (go_seq (rp 2 ?_))
      replace H := out_some H
      obtain ⟨_, H, he1⟩ := H
      have he := (hout1 _ he1).symm
      subst he
      replace H := Option.some.inj H
      subst H
      exact gr Try.func100 ⟨rfl, hI⟩
    · refine ge hc183 (go_skip (go_inBlock (rp 2 ?_)))
      exact hin1 _ (Option.some.inj H).symm _ _ ⟨_, at_, hI⟩
  · refine ge hc132 ?_
    refine go_exit rfl ?_
    refine go_seq (rp 1 ?_)
    replace H := out_some H
    obtain ⟨_, H, he1⟩ := H
    have he := (hout1 _ he1).symm
    subst he
    replace H := Option.some.inj H
    subst H
    exact gr Try.func100 ⟨rfl, hI⟩
theorem enter79 (a : Array Value) : Sem.pureRun Try.prog (callFunc 79 a) = some (.enter 79 a) := by kernel_rfl
theorem slices_ContainsFunc_Txn_index_placed_1zcalls (A0z : Option Addr) (c0z : Nat) (a0 : List Txn) (b1c0z : Nat) (a1c0 : Txn) (A1c0z0 : Option Addr) (c1c0z0 : Nat) (M : Mem) (w : World) (hI : Inv M w []) (hr0z : rdS kTxn M.blk A0z a0) (hl0z : a0.length ≤ c0z) (hb1c0z : Lies M.blk (b1c0z, 0, [vI a1c0.Proc, vI a1c0.Status, vI a1c0.From, vI a1c0.To, vS A1c0z0 a1c0.Ops.length c1c0z0])) (hr1c0z0 : rdS kOp M.blk A1c0z0 a1c0.Ops) (hl1c0z0 : a1c0.Ops.length ≤ c1c0z0) (r : Bool) (H : slices_ContainsFunc_Txn_index_placed_1 a0 a1c0 = some r) :
    Calls Try.prog 79 #[vS A0z a0.length c0z, .func (.func 80) #[] #[vP b1c0z 0]] w fun e w' => e = .returned (vB r) ∧ Inv M w' [] := by
  refine cg Try.func79 ?_
  intro cs
  unfold slices_ContainsFunc_Txn_index_placed_1 at H
  refine go_seq (rp 1 (go_seq (r_in (bp 0 2 ?_))))
  replace H := bind_some H
  obtain ⟨y3, hy4, H⟩ := H
  refine oe 2 rfl ?_
  refine ec (enter100 _) (slices_IndexFunc_Txn_index_placed_1zcalls A0z c0z a0 b1c0z a1c0 A1c0z0 c1c0z0 (memOf _) _ (Inv.start _) (hI.rd hr0z) hl0z (Lies.mono hb1c0z hI.fix) (hI.rd hr1c0z0) hl1c0z0 _ hy4) ?_
  rintro _ _ ⟨rfl, hI'⟩
  replace hI := hI.call0 hI'
  clear hI'
  refine ⟨_, rfl, ?_⟩
  refine bp 3 2 (ro ?_)
  replace H := Option.some.inj H
  subst H
  exact gr Try.func79 ⟨rfl, hI⟩
theorem enter43 (a : Array Value) : Sem.pureRun Try.prog (callFunc 43 a) = some (.enter 43 a) := by kernel_rfl
theorem index_placed_calls (A0z : Option Addr) (c0z : Nat) (a0 : List Txn) (a1 : Txn) (A1z0 : Option Addr) (c1z0 : Nat) (M : Mem) (w : World) (hI : Inv M w []) (hr0z : rdS kTxn M.blk A0z a0) (hl0z : a0.length ≤ c0z) (hr1z0 : rdS kOp M.blk A1z0 a1.Ops) (hl1z0 : a1.Ops.length ≤ c1z0) (r : Bool) (H : index_placed a0 a1 = some r) :
    Calls Try.prog 43 #[vS A0z a0.length c0z, .agg #[vI a1.Proc, vI a1.Status, vI a1.From, vI a1.To, vS A1z0 a1.Ops.length c1z0]] w fun e w' => e = .returned (vB r) ∧ Inv M w' [] := by
  refine cg Try.func43 ?_
  intro cs
  unfold index_placed at H
  refine go_seq (r_in (oe 0 rfl ?_))
  refine e_box 41 _ (.agg #[vI a1.Proc, vI a1.Status, vI a1.From, vI a1.To, vS A1z0 a1.Ops.length c1z0]) [vI a1.Proc, vI a1.Status, vI a1.From, vI a1.To, vS A1z0 a1.Ops.length c1z0] rfl (by kernel_rfl) rfl hI ?_
  clear hI
  intro b2 _ hI
  refine bp 1 1 (ro (go_seq (go_seq (rg [.p, .l 0 1] (gA (hI.grp 0 rfl)) ?_))))
  refine go_block_join (o := r) (fun (_ : Unit) f w => ∃ (j : Nat → Value), f = updL j [(0, vS A0z a0.length c0z), (3, vP b2 0)] ∧ Inv M w [.blk b2 41 [vI a1.Proc, vI a1.Status, vI a1.From, vI a1.To, vS A1z0 a1.Ops.length c1z0]]) (fun (_ : Unit) => index_placed.j1 a0 a1) ?_ (fun hJ19 => ?_)
  · clear H hI
    rintro ⟨⟩ _ _ ⟨_, rfl, hI⟩ H
    refine go_seq ?_
    refine go_seq_join (o := r) (fun b46 f w => ∃ (j : Nat → Value), f = updL j [(0, vS A0z a0.length c0z), (3, vP b2 0), (46, vB b46)] ∧ Inv M w [.blk b2 41 [vI a1.Proc, vI a1.Status, vI a1.From, vI a1.To, vS A1z0 a1.Ops.length c1z0]]) (fun b46 => index_placed.j2 a0 a1 b46) ?_ (fun hJ47 => ?_)
    · clear H hI
      rintro b46 _ _ ⟨_, rfl, hI⟩ H
      replace H := cond_some H
      rcases H with ⟨hc48, H⟩ | ⟨hc48, H⟩
      · refine gt hc48 (go_seq (rp 1 ?_))
        replace H := Option.some.inj H
        subst H
        exact gr Try.func43 ⟨rfl, hI.pn⟩
      · refine ge hc48 (go_skip (go_seq (r_in (bp 0 2 ?_))))
        replace H := bind_some H
        obtain ⟨y51, hy52, H⟩ := H
        refine oe 2 rfl ?_
        refine ec (enter79 _) (slices_ContainsFunc_Txn_index_placed_1zcalls A0z c0z a0 b2 a1 A1z0 c1z0 (memOf _) _ (Inv.start _) (hI.rd hr0z) hl0z (Grp.lies (hI.grp 0 rfl)) (hI.rd hr1z0) hl1z0 _ hy52) ?_
        rintro _ _ ⟨rfl, hI'⟩
        replace hI := hI.call0 hI'
        clear hI'
        refine ⟨_, rfl, ?_⟩
        refine bp 3 2 (ro ?_)
        replace H := Option.some.inj H
        subst H
        exact gr Try.func43 ⟨rfl, hI.pn⟩
    · replace H := cond_some H
      rcases H with ⟨hc53, H⟩ | ⟨hc53, H⟩
      · refine dx [.p, .l 0 2, .p, .c true, .p, .p, .p, .p, .p, .p, .p, .p, .p, .p, .p, .p, .p, .p, .p, .p] (gA (hI.grp 0 rfl)) _ (bZ (bndEq hc53)) hI ?_
        clear hI
        intro _ hI
        exact hJ47 true _ _ ⟨_, at_, hI⟩ H
      · replace H := cond_some H
        rcases H with ⟨hc54, H⟩ | ⟨hc54, H⟩
        · replace H := must_some H
          obtain ⟨g55, H⟩ := H
          obtain ⟨b59, q60, rfl, cs58, hk57, hg56⟩ := rdS.open hr0z rfl g55
          obtain ⟨_, _, rfl, rfl, ⟨_, _, rfl, rfl, ⟨_, _, rfl, rfl, ⟨_, _, rfl, rfl, ⟨A61, c62, rfl, hl64, hr63⟩⟩⟩⟩⟩ := hk57
          refine dx [.p, .l 0 2, .p, .c false, .p, .p, .p, .c true, .p, .p, .p, .p, .x, .p, .l 1 2, .p, .l 0 2, .p, .p, .p] (gB (hI.grp 0 rfl) (hI.lies hg56)) _ (bC (bndEq hc53) (bC (bndEq hc54) (bZ g55))) hI ?_
          clear hI
          intro _ hI
          exact hJ47 (decide ((idx a0 (w64 ((a0.length : Int) - 1))).From ≥ a1.From)) _ _ ⟨_, at_, hI⟩ H
        · refine dx [.p, .l 0 2, .p, .c false, .p, .p, .p, .c false, .p, .p, .p, .p, .p, .p, .p, .p, .p, .p, .p, .p] (gA (hI.grp 0 rfl)) _ (bC (bndEq hc53) (bZ (bndEq hc54))) hI ?_
          clear hI
          intro _ hI
          exact hJ47 false _ _ ⟨_, at_, hI⟩ H
  · refine go_seq_join (o := r) (fun b66 f w => ∃ (j : Nat → Value), f = updL j [(0, vS A0z a0.length c0z), (3, vP b2 0), (6, vI a1.Status), (7, vB b66)] ∧ Inv M w [.blk b2 41 [vI a1.Proc, vI a1.Status, vI a1.From, vI a1.To, vS A1z0 a1.Ops.length c1z0]]) (fun b66 => index_placed.j3 a0 a1 b66) ?_ (fun hJ67 => ?_)
    · clear H hI
      rintro b66 _ _ ⟨_, rfl, hI⟩ H
      replace H := cond_some H
      rcases H with ⟨hc68, H⟩ | ⟨hc68, H⟩
      · refine gt hc68 (go_seq (rg [.p, .l 0 3, .p, .l 0 2, .p] (gA (hI.grp 0 rfl)) ?_))
        replace H := cond_some H
        rcases H with ⟨hc69, H⟩ | ⟨hc69, H⟩
        · refine gt hc69 (go_seq (rp 1 ?_))
          replace H := Option.some.inj H
          subst H
          exact gr Try.func43 ⟨rfl, hI.pn⟩
        · refine ge hc69 (go_skip (go_inBlock ?_))
          exact hJ19 () _ _ ⟨_, at_, hI⟩ H
      · refine ge hc68 (go_seq (rp 2 ?_))
        replace H := cond_some H
        rcases H with ⟨hc70, H⟩ | ⟨hc70, H⟩
        · refine gt hc70 ?_
          refine go_seq_join (o := r) (fun b72 f w => ∃ (j : Nat → Value), f = updL j [(0, vS A0z a0.length c0z), (3, vP b2 0), (26, vB b72)] ∧ Inv M w [.blk b2 41 [vI a1.Proc, vI a1.Status, vI a1.From, vI a1.To, vS A1z0 a1.Ops.length c1z0]]) (fun b72 => index_placed.j4 a0 a1 b72) ?_ (fun hJ73 => ?_)
          · clear H hI
            rintro b72 _ _ ⟨_, rfl, hI⟩ H
            replace H := cond_some H
            rcases H with ⟨hc74, H⟩ | ⟨hc74, H⟩
            · refine gt hc74 (go_seq (rp 1 ?_))
              replace H := Option.some.inj H
              subst H
              exact gr Try.func43 ⟨rfl, hI.pn⟩
            · refine ge hc74 (go_skip (go_inBlock ?_))
              exact hJ19 () _ _ ⟨_, at_, hI⟩ H
          · refine r_in ?_
            replace H := cond_some H
            rcases H with ⟨hc75, H⟩ | ⟨hc75, H⟩
            · refine bx 0 [.p, .l 0 3, .p, .c true, .p, .l 0 3, .p, .l 0 2, .p, .p] (gA (hI.grp 0 rfl)) _ (bZ (bndEq hc75)) (ro ?_)
              exact hJ73 (decide (a1.To ≤ a1.From)) _ _ ⟨_, at_, hI⟩ H
            · refine bx 0 [.p, .l 0 3, .p, .c false, .p, .p, .p, .p, .p, .p] (gA (hI.grp 0 rfl)) _ (bZ (bndEq hc75)) (ro ?_)
              exact hJ73 false _ _ ⟨_, at_, hI⟩ H
        · refine ge hc70 (go_seq (rp 1 ?_))
          replace H := Option.some.inj H
          subst H
          exact gr Try.func43 ⟨rfl, hI.pn⟩
    · refine go_seq (rp 2 ?_)
      replace H := cond_some H
      rcases H with ⟨hc76, H⟩ | ⟨hc76, H⟩
      · refine gt hc76 (go_skip ?_)
        exact hJ67 (a1.Status == 1) _ _ ⟨_, at_, hI⟩ H
      · refine ge hc76 (rp 2 ?_)
        exact hJ67 (a1.Status == 2) _ _ ⟨_, at_, hI⟩ H
theorem enter47 (a : Array Value) : Sem.pureRun Try.prog (callFunc 47 a) = some (.enter 47 a) := by kernel_rfl
theorem index_typeOf_calls (a0 : Int) (M : Mem) (w : World) (hI : Inv M w []) (r : Int) (H : index_typeOf a0 = some r) :
    Calls Try.prog 47 #[vI a0] w fun e w' => e = .returned (vI r) ∧ Inv M w' [] := by
  refine cg Try.func47 ?_
  intro cs
  unfold index_typeOf at H
  refine go_seq (rp 1 (go_seq (rp 5 ?_)))
  replace H := Option.some.inj H
  subst H
  exact gr Try.func47 ⟨rfl, hI⟩
theorem enter44 (a : Array Value) : Sem.pureRun Try.prog (callFunc 44 a) = some (.enter 44 a) := by kernel_rfl
theorem index_ledger_enter_calls (b0z : Nat) (a0 : IndexLedger) (A0z0 : Option Addr) (c0z0 : Nat) (b0z1 : Nat) (A0z2 : Option Addr) (c0z2 : Nat) (b0z3 : Nat) (b0z4 : Nat) (a1 : Call) (A1z0 : Option Addr) (c1z0 : Nat) (a2 : Int) (M : Mem) (w : World) (hI : Inv M w [.blk b0z 136 [vS A0z0 a0.keys.length c0z0, .map (some b0z1), vS A0z2 a0.types.length c0z2, .map (some b0z3), .map (some b0z4)], .row tStr 9 A0z0 a0.keys.length c0z0 a0.keys, mapA (fun x : ByteArray => .string x) (fun x : Int => vI x) b0z1 a0.at_, .row (tInt .i64) 3 A0z2 a0.types.length c0z2 a0.types, mapA (fun x : IndexFact => .agg #[.string x.key, vI x.arg]) (fun _ : Unit => .agg #[]) b0z3 a0.facts, mapO (fun x : ByteArray => .string x) (tSlice 3 (tInt .i64)) b0z4 a0.incs]) (hr1z0 : rdS (tInt .i64) M.blk A1z0 a1.Vals) (hl1z0 : a1.Vals.length ≤ c1z0) (r : Int × IndexLedger) (H : index_ledger_enter a0 a1 a2 = some r) :
    Calls Try.prog 44 #[vP b0z 0, .agg #[vI a1.Kind, .string a1.Key, vI a1.Arg, vB a1.Got, vS A1z0 a1.Vals.length c1z0], vI a2] w fun e w' => ∃ (A316 : Option Addr), ∃ (c317 : Nat), ∃ (b318 : Nat), ∃ (A319 : Option Addr), ∃ (c320 : Nat), ∃ (b321 : Nat), ∃ (b322 : Nat), e = .returned (vI r.1) ∧ Inv M w' [.blk b0z 136 [vS A316 r.2.keys.length c317, .map (some b318), vS A319 r.2.types.length c320, .map (some b321), .map (some b322)], .row tStr 9 A316 r.2.keys.length c317 r.2.keys, mapA (fun x : ByteArray => .string x) (fun x : Int => vI x) b318 r.2.at_, .row (tInt .i64) 3 A319 r.2.types.length c320 r.2.types, mapA (fun x : IndexFact => .agg #[.string x.key, vI x.arg]) (fun _ : Unit => .agg #[]) b321 r.2.facts, mapO (fun x : ByteArray => .string x) (tSlice 3 (tInt .i64)) b322 r.2.incs] := by
  refine cg Try.func44 ?_
  intro cs
  unfold index_ledger_enter at H
  refine go_seq (r_in (oe 0 rfl ?_))
  refine e_box 89 _ (.agg #[vI a1.Kind, .string a1.Key, vI a1.Arg, vB a1.Got, vS A1z0 a1.Vals.length c1z0]) [vI a1.Kind, .string a1.Key, vI a1.Arg, vB a1.Got, vS A1z0 a1.Vals.length c1z0] rfl (by kernel_rfl) rfl hI ?_
  clear hI
  intro b2 _ hI
  refine bp 1 1 (ro (go_seq ?_))
  refine go_held (fun w => Inv M w [.blk b0z 136 [vS A0z0 a0.keys.length c0z0, .map (some b0z1), vS A0z2 a0.types.length c0z2, .map (some b0z3), .map (some b0z4)], .row tStr 9 A0z0 a0.keys.length c0z0 a0.keys, mapA (fun x : ByteArray => .string x) (fun x : Int => vI x) b0z1 a0.at_, .row (tInt .i64) 3 A0z2 a0.types.length c0z2 a0.types, mapA (fun x : IndexFact => .agg #[.string x.key, vI x.arg]) (fun _ : Unit => .agg #[]) b0z3 a0.facts, mapO (fun x : ByteArray => .string x) (tSlice 3 (tInt .i64)) b0z4 a0.incs, .blk b2 89 [vI a1.Kind, .string a1.Key, vI a1.Arg, vB a1.Got, vS A1z0 a1.Vals.length c1z0]]) (by kernel_rfl) ?_
  replace hI := hI.drew'
  refine hg (n := 6) [(0, .p), (1, .p), (2, .p), (3, .l 0 1), (4, .p), (5, .l 1 1)] (fun _ hS => (gB (hS.grp 0 rfl) (hS.grp 6 rfl))) hI ?_
  refine ho (n := 5) 6 rfl (e_lookup (ek := (fun x : ByteArray => .string x)) (ev := (fun x : Int => vI x)) 132 9 3 _ _ true b0z1 a0.at_ a1.Key rfl (by kernel_rfl) (key_str (by kernel_rfl)) (fun _ => by kernel_rfl) (by kernel_rfl) (by kernel_rfl) (hI.mapAt 2 rfl) ?_)
  refine ⟨hI, ?_⟩
  refine hg (n := 0) [(7, .p), (8, .p), (9, .p), (10, .p), (11, .p)] (fun _ hS => gO) hI (hd ?_)
  refine go_seq_join (o := r) (fun (l59, m62, l63, x66) f w => ∃ (j : Nat → Value) (A60 : Option Addr) (c61 : Nat) (A64 : Option Addr) (c65 : Nat), f = updL j [(0, vP b0z 0), (2, vI a2), (4, vP b2 0), (7, vI x66)] ∧ Inv M w [.blk b0z 136 [vS A60 l59.length c61, .map (some b0z1), vS A64 l63.length c65, .map (some b0z3), .map (some b0z4)], .row tStr 9 A60 l59.length c61 l59, mapA (fun x : ByteArray => .string x) (fun x : Int => vI x) b0z1 m62, .row (tInt .i64) 3 A64 l63.length c65 l63, mapA (fun x : IndexFact => .agg #[.string x.key, vI x.arg]) (fun _ : Unit => .agg #[]) b0z3 a0.facts, mapO (fun x : ByteArray => .string x) (tSlice 3 (tInt .i64)) b0z4 a0.incs, .blk b2 89 [vI a1.Kind, .string a1.Key, vI a1.Arg, vB a1.Got, vS A1z0 a1.Vals.length c1z0]]) (fun (l59, m62, l63, x66) => index_ledger_enter.j1 a0 a1 a2 l59 m62 l63 x66) ?_ (fun hJ67 => ?_)
  · clear H hI
    rintro ⟨l59, m62, l63, x66⟩ _ _ ⟨_, A60, c61, A64, c65, rfl, hI⟩ H
    refine go_seq (go_seq ?_)
    replace H := must_some H
    obtain ⟨g77, H⟩ := H
    obtain ⟨b78, rfl⟩ := hI.rowAt 3 rfl g77
    replace H := bind_some H
    obtain ⟨y79, hy80, H⟩ := H
    refine go_held (fun w => Inv M w [.blk b0z 136 [vS A60 l59.length c61, .map (some b0z1), vS (some ⟨b78, 0, none⟩) l63.length c65, .map (some b0z3), .map (some b0z4)], .row tStr 9 A60 l59.length c61 l59, mapA (fun x : ByteArray => .string x) (fun x : Int => vI x) b0z1 m62, .row (tInt .i64) 3 (some ⟨b78, 0, none⟩) l63.length c65 l63, mapA (fun x : IndexFact => .agg #[.string x.key, vI x.arg]) (fun _ : Unit => .agg #[]) b0z3 a0.facts, mapO (fun x : ByteArray => .string x) (tSlice 3 (tInt .i64)) b0z4 a0.incs, .blk b2 89 [vI a1.Kind, .string a1.Key, vI a1.Arg, vB a1.Got, vS A1z0 a1.Vals.length c1z0]]) (by kernel_rfl) ?_
    replace hI := hI.drew'
    refine hx (n := 2) [(0, .p), (1, .p), (2, .p), (3, .l 0 2), (4, .p), (5, .x), (6, .l 1 0), (7, .p), (8, .l 2 0)] (fun _ hS => (gC (hS.grp 0 rfl) ((rdS.flook (hS.row 3 rfl) (hS.rowlen 3 rfl) g77).ok) (hS.grp 6 rfl))) hI _ (bZ g77) ?_
    refine ho (n := 1) 9 rfl (ec (enter47 _) (index_typeOf_calls a1.Kind (memOf _) _ (Inv.start _) _ hy80) ?_)
    rintro _ _ ⟨rfl, hI'⟩
    replace hI := hI.call0 hI'
    clear hI'
    refine ⟨_, rfl, ?_⟩
    refine ⟨hI, ?_⟩
    refine hg (n := 0) [(10, .p)] (fun _ hS => gO) hI (hd ?_)
    replace H := cond_some H
    rcases H with ⟨hc81, H⟩ | ⟨hc81, H⟩
    · refine gt hc81 (go_seq (rp 1 ?_))
      replace H := Option.some.inj H
      subst H
      exact gr Try.func44 ⟨A60, c61, b0z1, (some ⟨b78, 0, none⟩), c65, b0z3, b0z4, rfl, hI.pick [0, 1, 2, 3, 4, 5] (by decide) rfl⟩
    · refine ge hc81 (go_skip (go_seq (go_seq (rg [.p, .l 0 0] (gA (hI.grp 6 rfl)) ?_))))
      refine go_block_join (o := r) (fun (m152, m153) f w => ∃ (j : Nat → Value), f = updL j [(0, vP b0z 0)] ∧ Inv M w [.blk b0z 136 [vS A60 l59.length c61, .map (some b0z1), vS (some ⟨b78, 0, none⟩) l63.length c65, .map (some b0z3), .map (some b0z4)], .row tStr 9 A60 l59.length c61 l59, mapA (fun x : ByteArray => .string x) (fun x : Int => vI x) b0z1 m62, .row (tInt .i64) 3 (some ⟨b78, 0, none⟩) l63.length c65 l63, mapA (fun x : IndexFact => .agg #[.string x.key, vI x.arg]) (fun _ : Unit => .agg #[]) b0z3 m152, mapO (fun x : ByteArray => .string x) (tSlice 3 (tInt .i64)) b0z4 m153]) (fun (m152, m153) => index_ledger_enter.j2 l59 m62 l63 m152 m153) ?_ (fun hJ154 => ?_)
      · clear H hI
        rintro ⟨m152, m153⟩ _ _ ⟨_, rfl, hI⟩ H
        refine go_seq (rp 1 ?_)
        replace H := Option.some.inj H
        subst H
        exact gr Try.func44 ⟨A60, c61, b0z1, (some ⟨b78, 0, none⟩), c65, b0z3, b0z4, rfl, hI⟩
      · refine go_seq_join (o := r) (fun b156 f w => ∃ (j : Nat → Value), f = updL j [(0, vP b0z 0), (2, vI a2), (4, vP b2 0), (78, vI a1.Kind), (79, vB b156)] ∧ Inv M w [.blk b0z 136 [vS A60 l59.length c61, .map (some b0z1), vS (some ⟨b78, 0, none⟩) l63.length c65, .map (some b0z3), .map (some b0z4)], .row tStr 9 A60 l59.length c61 l59, mapA (fun x : ByteArray => .string x) (fun x : Int => vI x) b0z1 m62, .row (tInt .i64) 3 (some ⟨b78, 0, none⟩) l63.length c65 l63, mapA (fun x : IndexFact => .agg #[.string x.key, vI x.arg]) (fun _ : Unit => .agg #[]) b0z3 a0.facts, mapO (fun x : ByteArray => .string x) (tSlice 3 (tInt .i64)) b0z4 a0.incs, .blk b2 89 [vI a1.Kind, .string a1.Key, vI a1.Arg, vB a1.Got, vS A1z0 a1.Vals.length c1z0]]) (fun b156 => index_ledger_enter.j3 a0 a1 a2 l59 m62 l63 b156) ?_ (fun hJ157 => ?_)
        · clear H hI
          rintro b156 _ _ ⟨_, rfl, hI⟩ H
          replace H := cond_some H
          rcases H with ⟨hc158, H⟩ | ⟨hc158, H⟩
          · refine gt hc158 (go_seq (r_in (bg 0 [.p, .l 0 1, .p, .l 0 2, .p] (gA (hI.grp 6 rfl)) (oe 5 rfl ?_))))
            refine e_alloc 140 (.agg #[.string (⟨#[]⟩ : ByteArray), vI 0]) [.string (⟨#[]⟩ : ByteArray), vI 0] rfl (by kernel_rfl) rfl hI ?_
            clear hI
            intro b160 _ hI
            refine oe 6 rfl ?_
            refine e_store 140 _ _ 7 b160 140 [.string (⟨#[]⟩ : ByteArray), vI 0] [.string a1.Key, vI a1.Arg] 0 (.agg #[.string a1.Key, vI a1.Arg]) rfl (by kernel_rfl) (by kernel_rfl) (by kernel_rfl) (by kernel_rfl) hI rfl (by kernel_rfl) (by kernel_rfl) ?_
            clear hI
            intro _ hI
            refine ro (go_seq ?_)
            refine go_seq_join (o := r) (fun (_ : Unit) f w => ∃ (j : Nat → Value), f = updL j [(0, vP b0z 0), (9, vP b160 0), (11, vB (mhas a0.facts (⟨a1.Key, a1.Arg⟩ : IndexFact)))] ∧ Inv M w [.blk b0z 136 [vS A60 l59.length c61, .map (some b0z1), vS (some ⟨b78, 0, none⟩) l63.length c65, .map (some b0z3), .map (some b0z4)], .row tStr 9 A60 l59.length c61 l59, mapA (fun x : ByteArray => .string x) (fun x : Int => vI x) b0z1 m62, .row (tInt .i64) 3 (some ⟨b78, 0, none⟩) l63.length c65 l63, mapA (fun x : IndexFact => .agg #[.string x.key, vI x.arg]) (fun _ : Unit => .agg #[]) b0z3 a0.facts, mapO (fun x : ByteArray => .string x) (tSlice 3 (tInt .i64)) b0z4 a0.incs, .blk b160 140 [.string a1.Key, vI a1.Arg]]) (fun (_ : Unit) => index_ledger_enter.j4 a0 a1 l59 m62 l63) ?_ (fun hJ172 => ?_)
            · clear H hI
              rintro ⟨⟩ _ _ ⟨_, rfl, hI⟩ H
              refine go_seq (rp 1 ?_)
              replace H := cond_some H
              rcases H with ⟨hc173, H⟩ | ⟨hc173, H⟩
              · refine gt hc173 (go_seq (rp 1 ?_))
                replace H := Option.some.inj H
                subst H
                exact gr Try.func44 ⟨A60, c61, b0z1, (some ⟨b78, 0, none⟩), c65, b0z3, b0z4, rfl, hI.pick [0, 1, 2, 3, 4, 5] (by decide) rfl⟩
              · refine ge hc173 (go_skip ?_)
                refine d_tail' 6 _ [(b0z, 0, [vS A60 l59.length c61, .map (some b0z1), vS (some ⟨b78, 0, none⟩) l63.length c65, .map (some b0z3), .map (some b0z4)]), (b160, 0, [.string a1.Key, vI a1.Arg])] [.p, .p, .p, .l 0 3, .l 1 0, .p] [(97, vP b0z 0), (98, vP b0z 0), (99, vP b0z 3), (100, .map (some b0z3)), (101, .agg #[.string a1.Key, vI a1.Arg]), (102, .agg #[])] [] (by kernel_rfl) (by kernel_rfl) rfl rfl ⟨(hI.grp 0 rfl), (hI.grp 6 rfl), trivial⟩ trivial (by kernel_rfl) (by kernel_rfl) (by kernel_rfl) (by kernel_rfl) hI ?_
                clear hI
                intro _ hI hsame
                refine e_mapput (ek := (fun x : IndexFact => .agg #[.string x.key, vI x.arg])) (ev := (fun _ : Unit => .agg #[])) 133 140 141 _ _ _ 4 b0z3 a0.facts (⟨a1.Key, a1.Arg⟩ : IndexFact) () rfl (by kernel_rfl) keyIndexFact (by kernel_rfl) (by kernel_rfl) (by kernel_rfl) hI rfl ?_
                clear hI
                intro _ hI
                refine go_inBlock ?_
                exact hJ154 (mput a0.facts (⟨a1.Key, a1.Arg⟩ : IndexFact) (), a0.incs) _ _ ⟨_, at_, hI.pick [0, 1, 2, 3, 4, 5] (by decide) rfl⟩ H
            · refine go_held (fun w => Inv M w [.blk b0z 136 [vS A60 l59.length c61, .map (some b0z1), vS (some ⟨b78, 0, none⟩) l63.length c65, .map (some b0z3), .map (some b0z4)], .row tStr 9 A60 l59.length c61 l59, mapA (fun x : ByteArray => .string x) (fun x : Int => vI x) b0z1 m62, .row (tInt .i64) 3 (some ⟨b78, 0, none⟩) l63.length c65 l63, mapA (fun x : IndexFact => .agg #[.string x.key, vI x.arg]) (fun _ : Unit => .agg #[]) b0z3 a0.facts, mapO (fun x : ByteArray => .string x) (tSlice 3 (tInt .i64)) b0z4 a0.incs, .blk b2 89 [vI a1.Kind, .string a1.Key, vI a1.Arg, vB a1.Got, vS A1z0 a1.Vals.length c1z0], .blk b160 140 [.string a1.Key, vI a1.Arg]]) (by kernel_rfl) ?_
              replace hI := hI.drew'
              refine hg (n := 7) [(0, .p), (1, .p), (2, .p), (3, .l 0 3), (4, .l 1 0)] (fun _ hS => (gB (hS.grp 0 rfl) (hS.grp 7 rfl))) hI ?_
              refine held_each (n := 6) [5, 9] (by simp) (by kernel_rfl) ⟨⟨_, rfl, by kernel_rfl, ?_⟩, ⟨_, rfl, by kernel_rfl, ?_⟩, trivial⟩
              · refine (e_lookup (ek := (fun x : IndexFact => .agg #[.string x.key, vI x.arg])) (ev := (fun _ : Unit => .agg #[])) 133 140 141 _ _ true b0z3 a0.facts (⟨a1.Key, a1.Arg⟩ : IndexFact) rfl (by kernel_rfl) keyIndexFact (fun _ => by kernel_rfl) (by kernel_rfl) (by kernel_rfl) (hI.mapAt 4 rfl) ?_)
                refine ⟨hI, ?_⟩
                refine hg (n := 3) [(6, .p), (7, .p), (8, .p)] (fun _ hS => gO) hI ?_
                refine ho (n := 2) 9 rfl (e_alloc 141 (.agg #[]) [] rfl (by kernel_rfl) rfl hI ?_)
                clear hI
                intro b177 _ hI
                refine ⟨(hI.pk [0, 1, 2, 3, 4, 5, 6, 7]), ?_⟩
                refine ho (n := 1) 10 rfl (e_store 141 _ _ 8 b177 141 [] [] 0 (.agg #[]) rfl (by kernel_rfl) (by kernel_rfl) (by kernel_rfl) (by kernel_rfl) hI rfl (by kernel_rfl) (by kernel_rfl) ?_)
                clear hI
                intro _ hI
                refine ⟨(hI.pk [0, 1, 2, 3, 4, 5, 6, 7]), ?_⟩
                refine hg (n := 0) [(11, .p)] (fun _ hS => gO) (hI.pk [0, 1, 2, 3, 4, 5, 6, 7]) (hd ?_)
                exact hJ172 () _ _ ⟨_, at_, hI.pick [0, 1, 2, 3, 4, 5, 7] (by decide) rfl⟩ H
              · refine (e_alloc 141 (.agg #[]) [] rfl (by kernel_rfl) rfl hI ?_)
                clear hI
                intro b178 _ hI
                refine ⟨(hI.pk [0, 1, 2, 3, 4, 5, 6, 7]), ?_⟩
                refine ho (n := 5) 5 rfl (e_lookup (ek := (fun x : IndexFact => .agg #[.string x.key, vI x.arg])) (ev := (fun _ : Unit => .agg #[])) 133 140 141 _ _ true b0z3 a0.facts (⟨a1.Key, a1.Arg⟩ : IndexFact) rfl (by kernel_rfl) keyIndexFact (fun _ => by kernel_rfl) (by kernel_rfl) (by kernel_rfl) (hI.mapAt 4 rfl) ?_)
                refine ⟨(hI.pk [0, 1, 2, 3, 4, 5, 6, 7]), ?_⟩
                refine hg (n := 2) [(6, .p), (7, .p), (8, .p)] (fun _ hS => gO) (hI.pk [0, 1, 2, 3, 4, 5, 6, 7]) ?_
                refine ho (n := 1) 10 rfl (e_store 141 _ _ 8 b178 141 [] [] 0 (.agg #[]) rfl (by kernel_rfl) (by kernel_rfl) (by kernel_rfl) (by kernel_rfl) hI rfl (by kernel_rfl) (by kernel_rfl) ?_)
                clear hI
                intro _ hI
                refine ⟨(hI.pk [0, 1, 2, 3, 4, 5, 6, 7]), ?_⟩
                refine hg (n := 0) [(11, .p)] (fun _ hS => gO) (hI.pk [0, 1, 2, 3, 4, 5, 6, 7]) (hd ?_)
                exact hJ172 () _ _ ⟨_, at_, hI.pick [0, 1, 2, 3, 4, 5, 7] (by decide) rfl⟩ H
          · refine ge hc158 (go_seq (rp 2 ?_))
            replace H := cond_some H
            rcases H with ⟨hc179, H⟩ | ⟨hc179, H⟩
            · refine gt hc179 ?_
              refine go_seq_join (o := r) (fun m196 f w => ∃ (j : Nat → Value), f = updL j [(0, vP b0z 0), (4, vP b2 0)] ∧ Inv M w [.blk b0z 136 [vS A60 l59.length c61, .map (some b0z1), vS (some ⟨b78, 0, none⟩) l63.length c65, .map (some b0z3), .map (some b0z4)], .row tStr 9 A60 l59.length c61 l59, mapA (fun x : ByteArray => .string x) (fun x : Int => vI x) b0z1 m62, .row (tInt .i64) 3 (some ⟨b78, 0, none⟩) l63.length c65 l63, mapA (fun x : IndexFact => .agg #[.string x.key, vI x.arg]) (fun _ : Unit => .agg #[]) b0z3 a0.facts, mapO (fun x : ByteArray => .string x) (tSlice 3 (tInt .i64)) b0z4 m196, .blk b2 89 [vI a1.Kind, .string a1.Key, vI a1.Arg, vB a1.Got, vS A1z0 a1.Vals.length c1z0]]) (fun m196 => index_ledger_enter.j5 a0 a1 l59 m62 l63 m196) ?_ (fun hJ197 => ?_)
              · clear H hI
                rintro m196 _ _ ⟨_, rfl, hI⟩ H
                refine go_seq ?_
                refine go_held (fun w => Inv M w [.blk b0z 136 [vS A60 l59.length c61, .map (some b0z1), vS (some ⟨b78, 0, none⟩) l63.length c65, .map (some b0z3), .map (some b0z4)], .row tStr 9 A60 l59.length c61 l59, mapA (fun x : ByteArray => .string x) (fun x : Int => vI x) b0z1 m62, .row (tInt .i64) 3 (some ⟨b78, 0, none⟩) l63.length c65 l63, mapA (fun x : IndexFact => .agg #[.string x.key, vI x.arg]) (fun _ : Unit => .agg #[]) b0z3 a0.facts, .blk b2 89 [vI a1.Kind, .string a1.Key, vI a1.Arg, vB a1.Got, vS A1z0 a1.Vals.length c1z0]]) (by kernel_rfl) ?_
                replace hI := hI.drew'
                refine hg (n := 3) [(0, .p), (1, .p), (2, .p), (3, .l 0 4), (4, .p), (5, .l 1 1)] (fun _ hS => (gB (hS.grp 0 rfl) (hS.grp 5 rfl))) (hI.pk [0, 1, 2, 3, 4, 6]) ?_
                refine ho (n := 2) 6 rfl (e_lookupO (ek := (fun x : ByteArray => .string x)) (kt := (tInt .i64)) (e := 3) 134 9 32 _ _ false 5 b0z4 m196 a1.Key rfl (by kernel_rfl) (key_str (by kernel_rfl)) (fun _ => by kernel_rfl) (by kernel_rfl) (by kernel_rfl) hI rfl ?_)
                intro A203 c204 hr205 hl206 hat207
                replace hI := hI.pin 5 rfl hat207
                refine ⟨(hI.pk [0, 1, 2, 3, 4, 6]), ?_⟩
                refine hg (n := 0) [(7, .p), (8, .p)] (fun _ hS => gO) (hI.pk [0, 1, 2, 3, 4, 6]) (hd ?_)
                replace H := cond_some H
                rcases H with ⟨hc208, H⟩ | ⟨hc208, H⟩
                · refine gt hc208 (go_seq (rp 1 ?_))
                  replace hI := hI.unpin 5 rfl
                  replace H := Option.some.inj H
                  subst H
                  exact gr Try.func44 ⟨A60, c61, b0z1, (some ⟨b78, 0, none⟩), c65, b0z3, b0z4, rfl, hI.pick [0, 1, 2, 3, 4, 5] (by decide) rfl⟩
                · refine ge hc208 (go_skip (go_inBlock ?_))
                  replace hI := hI.unpin 5 rfl
                  exact hJ154 (a0.facts, m196) _ _ ⟨_, at_, hI.pick [0, 1, 2, 3, 4, 5] (by decide) rfl⟩ H
              · refine go_seq ?_
                refine go_held (fun w => Inv M w [.blk b0z 136 [vS A60 l59.length c61, .map (some b0z1), vS (some ⟨b78, 0, none⟩) l63.length c65, .map (some b0z3), .map (some b0z4)], .row tStr 9 A60 l59.length c61 l59, mapA (fun x : ByteArray => .string x) (fun x : Int => vI x) b0z1 m62, .row (tInt .i64) 3 (some ⟨b78, 0, none⟩) l63.length c65 l63, mapA (fun x : IndexFact => .agg #[.string x.key, vI x.arg]) (fun _ : Unit => .agg #[]) b0z3 a0.facts, .blk b2 89 [vI a1.Kind, .string a1.Key, vI a1.Arg, vB a1.Got, vS A1z0 a1.Vals.length c1z0]]) (by kernel_rfl) ?_
                replace hI := hI.drew'
                refine hg (n := 2) [(0, .p), (1, .p), (2, .p), (3, .l 0 4), (4, .p), (5, .l 1 1)] (fun _ hS => (gB (hS.grp 0 rfl) (hS.grp 5 rfl))) (hI.pk [0, 1, 2, 3, 4, 6]) ?_
                refine ho (n := 1) 6 rfl (e_lookupO (ek := (fun x : ByteArray => .string x)) (kt := (tInt .i64)) (e := 3) 134 9 32 _ _ false 5 b0z4 a0.incs a1.Key rfl (by kernel_rfl) (key_str (by kernel_rfl)) (fun _ => by kernel_rfl) (by kernel_rfl) (by kernel_rfl) hI rfl ?_)
                intro A214 c215 hr216 hl217 hat218
                replace hI := hI.pin 5 rfl hat218
                refine ⟨(hI.pk [0, 1, 2, 3, 4, 6]), ?_⟩
                refine hg (n := 0) [(7, .p)] (fun _ hS => gO) (hI.pk [0, 1, 2, 3, 4, 6]) (hd ?_)
                refine go_seq_join (o := r) (fun b223 f w => ∃ (j : Nat → Value), f = updL j [(0, vP b0z 0), (2, vI a2), (4, vP b2 0), (12, vS A214 ((mat a0.incs a1.Key).length) c215), (124, vB b223)] ∧ Inv M w [.blk b0z 136 [vS A60 l59.length c61, .map (some b0z1), vS (some ⟨b78, 0, none⟩) l63.length c65, .map (some b0z3), .map (some b0z4)], .row tStr 9 A60 l59.length c61 l59, mapA (fun x : ByteArray => .string x) (fun x : Int => vI x) b0z1 m62, .row (tInt .i64) 3 (some ⟨b78, 0, none⟩) l63.length c65 l63, mapA (fun x : IndexFact => .agg #[.string x.key, vI x.arg]) (fun _ : Unit => .agg #[]) b0z3 a0.facts, mapPin (fun x : ByteArray => .string x) (tInt .i64) 3 b0z4 a0.incs a1.Key A214 c215, .blk b2 89 [vI a1.Kind, .string a1.Key, vI a1.Arg, vB a1.Got, vS A1z0 a1.Vals.length c1z0]]) (fun b223 => index_ledger_enter.j6 a0 a1 a2 l59 m62 l63 b223) ?_ (fun hJ224 => ?_)
                · clear H hI
                  rintro b223 _ _ ⟨_, rfl, hI⟩ H
                  replace H := cond_some H
                  rcases H with ⟨hc225, H⟩ | ⟨hc225, H⟩
                  · refine gt hc225 ?_
                    replace H := must_some H
                    obtain ⟨g228, H⟩ := H
                    refine go_held (fun w => Inv M w [.blk b0z 136 [vS A60 l59.length c61, .map (some b0z1), vS (some ⟨b78, 0, none⟩) l63.length c65, .map (some b0z3), .map (some b0z4)], .row tStr 9 A60 l59.length c61 l59, mapA (fun x : ByteArray => .string x) (fun x : Int => vI x) b0z1 m62, .row (tInt .i64) 3 (some ⟨b78, 0, none⟩) l63.length c65 l63, mapA (fun x : IndexFact => .agg #[.string x.key, vI x.arg]) (fun _ : Unit => .agg #[]) b0z3 a0.facts, .blk b2 89 [vI a1.Kind, .string a1.Key, vI a1.Arg, vB a1.Got, vS A1z0 a1.Vals.length c1z0]]) (by kernel_rfl) ?_
                    replace hI := hI.drew'
                    refine hg (n := 3) [(0, .p), (1, .p), (2, .p), (3, .l 0 4), (4, .p), (5, .l 1 1), (6, .p), (7, .p)] (fun _ hS => (gB (hS.grp 0 rfl) (hS.grp 5 rfl))) (hI.pk [0, 1, 2, 3, 4, 6]) ?_
                    refine ho (n := 2) 8 rfl (e_partsS 32 3 1 _ _ _ #[vI a2] [vI a2] rfl rfl rfl rfl (by kernel_rfl) (by kernel_rfl) (by kernel_rfl) (by kernel_rfl) hI ?_)
                    clear hI
                    intro b226 _ hs227 hI
                    refine ⟨(hI.pk [0, 1, 2, 3, 4, 6]), ?_⟩
                    replace hI := hI.takeP 5 rfl
                    refine ho (n := 1) 9 rfl (e_append (tInt .i64) 32 0 3 _ _ _ _ A214 ((mat a0.incs a1.Key).length) c215 (mat a0.incs a1.Key) ([a2] : List Int) b226 0 1 1 [vI a2] 0 [] [1, 2, 3, 4, 5, 6, 7, 8] [] [.blk b0z 136 [vS A60 l59.length c61, .map (some b0z1), vS (some ⟨b78, 0, none⟩) l63.length c65, .map (some b0z3), .map (some b0z4)], .row tStr 9 A60 l59.length c61 l59, mapA (fun x : ByteArray => .string x) (fun x : Int => vI x) b0z1 m62, .row (tInt .i64) 3 (some ⟨b78, 0, none⟩) l63.length c65 l63, mapA (fun x : IndexFact => .agg #[.string x.key, vI x.arg]) (fun _ : Unit => .agg #[]) b0z3 a0.facts, mapO (fun x : ByteArray => .string x) (tOpt (tSlice 3 (tInt .i64))) b0z4 (mhole a0.incs a1.Key [vS A214 (mat a0.incs a1.Key).length c215]), .blk b2 89 [vI a1.Kind, .string a1.Key, vI a1.Arg, vB a1.Got, vS A1z0 a1.Vals.length c1z0], .blk b226 3 [vI a2]] rfl (by kernel_rfl) (by kernel_rfl) rfl rfl rfl rfl rfl (by kernel_rfl) hI (by decide) rfl rfl rfl (hI.grp 8 rfl) g228 (mks_cons (mk_flat (k := (tInt .i64)) a2 [vI a2] rfl) mks_nil) ?_)
                    clear hI
                    intro A229 c230 _ hI
                    replace hI := hI.pick (L' := [.row (tInt .i64) 3 A229 (((mat a0.incs a1.Key) ++ ([a2] : List Int)).length) c230 ((mat a0.incs a1.Key) ++ ([a2] : List Int)), .blk b0z 136 [vS A60 l59.length c61, .map (some b0z1), vS (some ⟨b78, 0, none⟩) l63.length c65, .map (some b0z3), .map (some b0z4)], .row tStr 9 A60 l59.length c61 l59, mapA (fun x : ByteArray => .string x) (fun x : Int => vI x) b0z1 m62, .row (tInt .i64) 3 (some ⟨b78, 0, none⟩) l63.length c65 l63, mapA (fun x : IndexFact => .agg #[.string x.key, vI x.arg]) (fun _ : Unit => .agg #[]) b0z3 a0.facts, mapO (fun x : ByteArray => .string x) (tOpt (tSlice 3 (tInt .i64))) b0z4 (mhole a0.incs a1.Key [vS A214 (mat a0.incs a1.Key).length c215]), .blk b2 89 [vI a1.Kind, .string a1.Key, vI a1.Arg, vB a1.Got, vS A1z0 a1.Vals.length c1z0]]) [0, 1, 2, 3, 4, 5, 6, 7] (by decide) rfl
                    refine ⟨(hI.pk [1, 2, 3, 4, 5, 7]), ?_⟩
                    refine ho (n := 0) 10 rfl (e_mapputO (kv := tOpt (tSlice 3 (tInt .i64))) (ek := (fun x : ByteArray => .string x)) 134 9 32 _ _ _ 6 [0] [1, 2, 3, 4, 5, 7] [.row (tInt .i64) 3 A229 (((mat a0.incs a1.Key) ++ ([a2] : List Int)).length) c230 ((mat a0.incs a1.Key) ++ ([a2] : List Int))] [.blk b0z 136 [vS A60 l59.length c61, .map (some b0z1), vS (some ⟨b78, 0, none⟩) l63.length c65, .map (some b0z3), .map (some b0z4)], .row tStr 9 A60 l59.length c61 l59, mapA (fun x : ByteArray => .string x) (fun x : Int => vI x) b0z1 m62, .row (tInt .i64) 3 (some ⟨b78, 0, none⟩) l63.length c65 l63, mapA (fun x : IndexFact => .agg #[.string x.key, vI x.arg]) (fun _ : Unit => .agg #[]) b0z3 a0.facts, .blk b2 89 [vI a1.Kind, .string a1.Key, vI a1.Arg, vB a1.Got, vS A1z0 a1.Vals.length c1z0]] b0z4 (mhole a0.incs a1.Key [vS A214 (mat a0.incs a1.Key).length c215]) a1.Key (Sum.inl ((mat a0.incs a1.Key) ++ ([a2] : List Int))) (vS A229 (((mat a0.incs a1.Key) ++ ([a2] : List Int)).length) c230) rfl (by kernel_rfl) (key_str (by kernel_rfl)) (by kernel_rfl) (by kernel_rfl) (by kernel_rfl) rfl hI (by decide) rfl mk_row ?_)
                    clear hI
                    intro _ hI
                    replace hI := hI.mapback 0 (mput a0.incs a1.Key ((mat a0.incs a1.Key) ++ ([a2] : List Int))) rfl mhole_put
                    refine ⟨(hI.pk [1, 2, 3, 4, 5, 6]), ?_⟩
                    refine hd ?_
                    exact hJ197 (mput a0.incs a1.Key ((mat a0.incs a1.Key) ++ ([a2] : List Int))) _ _ ⟨_, at_, hI.pick [1, 2, 3, 4, 5, 0, 6] (by decide) rfl⟩ H
                  · refine ge hc225 (go_skip ?_)
                    replace hI := hI.unpin 5 rfl
                    exact hJ197 a0.incs _ _ ⟨_, at_, hI⟩ H
                · refine r_in ?_
                  replace H := cond_some H
                  rcases H with ⟨hc231, H⟩ | ⟨hc231, H⟩
                  · refine bx 0 [.p, .p, .p, .c true, .p, .p, .p, .p, .p, .p, .p, .p, .p] gO _ (bZ (bndEq hc231)) (ro ?_)
                    exact hJ224 true _ _ ⟨_, at_, hI⟩ H
                  · replace H := must_some H
                    obtain ⟨g232, H⟩ := H
                    obtain ⟨b233, q234, rfl, _⟩ := rdS.fopen (hI.pinrd 5 rfl) rfl g232
                    refine bx 0 [.p, .p, .p, .c false, .p, .p, .p, .p, .x, .l 0 0, .p, .p, .p] (gA ((rdS.flook hr216 rfl g232).ok)) _ (bC (bndEq hc231) (bZ g232)) (ro ?_)
                    exact hJ224 (idx (mat a0.incs a1.Key) (w64 (((mat a0.incs a1.Key).length : Int) - 1)) != a2) _ _ ⟨_, at_, hI⟩ H
            · refine ge hc179 (go_skip (go_inBlock ?_))
              exact hJ154 (a0.facts, a0.incs) _ _ ⟨_, at_, hI.pick [0, 1, 2, 3, 4, 5] (by decide) rfl⟩ H
        · refine go_seq (rp 2 ?_)
          replace H := cond_some H
          rcases H with ⟨hc235, H⟩ | ⟨hc235, H⟩
          · refine gt hc235 (go_skip ?_)
            exact hJ157 (a1.Kind == 2) _ _ ⟨_, at_, hI⟩ H
          · refine ge hc235 (rp 2 ?_)
            exact hJ157 (a1.Kind == 3) _ _ ⟨_, at_, hI⟩ H
  · refine go_seq (rp 2 ?_)
    replace H := cond_some H
    rcases H with ⟨hc236, H⟩ | ⟨hc236, H⟩
    · refine gt hc236 (go_seq (go_seq (rg [.p, .p, .p, .l 0 0, .p, .p] (gA (hI.grp 0 rfl)) ?_)))
      replace H := cond_some H
      rcases H with ⟨hc238, H⟩ | ⟨hc238, H⟩
      · refine gt hc238 (go_seq (rp 1 ?_))
        replace H := Option.some.inj H
        subst H
        exact gr Try.func44 ⟨A0z0, c0z0, b0z1, A0z2, c0z2, b0z3, b0z4, rfl, hI.pick [0, 1, 2, 3, 4, 5] (by decide) rfl⟩
      · refine ge hc238 (go_skip (go_seq (rg [.p, .p, .p, .l 0 0, .p, .p] (gA (hI.grp 0 rfl)) (go_seq ?_))))
        refine d_tail' 7 _ [(b0z, 0, [vS A0z0 a0.keys.length c0z0, .map (some b0z1), vS A0z2 a0.types.length c0z2, .map (some b0z3), .map (some b0z4)]), (b2, 0, [vI a1.Kind, .string a1.Key, vI a1.Arg, vB a1.Got, vS A1z0 a1.Vals.length c1z0])] [.p, .p, .p, .l 0 1, .p, .l 1 1, .p] [(36, vP b0z 0), (37, vP b0z 0), (38, vP b0z 1), (39, .map (some b0z1)), (40, vP b2 1), (41, .string a1.Key), (42, vI (a0.keys.length : Int))] [] (by kernel_rfl) (by kernel_rfl) rfl rfl ⟨(hI.grp 0 rfl), (hI.grp 6 rfl), trivial⟩ trivial (by kernel_rfl) (by kernel_rfl) (by kernel_rfl) (by kernel_rfl) hI ?_
        clear hI
        intro _ hI hsame
        refine e_mapput (ek := (fun x : ByteArray => .string x)) (ev := (fun x : Int => vI x)) 132 9 3 _ _ _ 2 b0z1 a0.at_ a1.Key (a0.keys.length : Int) rfl (by kernel_rfl) (key_str (by kernel_rfl)) (by kernel_rfl) (by kernel_rfl) (by kernel_rfl) hI rfl ?_
        clear hI
        intro _ hI
        refine go_seq_join (o := r) (fun (_ : Unit) f w => ∃ (j : Nat → Value) (A260 : Option Addr) (c261 : Nat), f = updL j [(0, vP b0z 0), (2, vI a2), (4, vP b2 0), (7, vI (a0.keys.length : Int))] ∧ Inv M w [.blk b0z 136 [vS A260 ((a0.keys ++ ([a1.Key] : List ByteArray)).length) c261, .map (some b0z1), vS A0z2 a0.types.length c0z2, .map (some b0z3), .map (some b0z4)], .row tStr 9 A260 ((a0.keys ++ ([a1.Key] : List ByteArray)).length) c261 (a0.keys ++ ([a1.Key] : List ByteArray)), mapA (fun x : ByteArray => .string x) (fun x : Int => vI x) b0z1 (mput a0.at_ a1.Key (a0.keys.length : Int)), .row (tInt .i64) 3 A0z2 a0.types.length c0z2 a0.types, mapA (fun x : IndexFact => .agg #[.string x.key, vI x.arg]) (fun _ : Unit => .agg #[]) b0z3 a0.facts, mapO (fun x : ByteArray => .string x) (tSlice 3 (tInt .i64)) b0z4 a0.incs, .blk b2 89 [vI a1.Kind, .string a1.Key, vI a1.Arg, vB a1.Got, vS A1z0 a1.Vals.length c1z0]]) (fun (_ : Unit) => index_ledger_enter.j7 a0 a1 a2) ?_ (fun hJ262 => ?_)
        · clear H hI
          rintro ⟨⟩ _ _ ⟨_, A260, c261, rfl, hI⟩ H
          replace H := bind_some H
          obtain ⟨y263, hy264, H⟩ := H
          replace H := must_some H
          obtain ⟨g267, H⟩ := H
          refine go_held (fun w => Inv M w [.row tStr 9 A260 ((a0.keys ++ ([a1.Key] : List ByteArray)).length) c261 (a0.keys ++ ([a1.Key] : List ByteArray)), mapA (fun x : ByteArray => .string x) (fun x : Int => vI x) b0z1 (mput a0.at_ a1.Key (a0.keys.length : Int)), mapA (fun x : IndexFact => .agg #[.string x.key, vI x.arg]) (fun _ : Unit => .agg #[]) b0z3 a0.facts, mapO (fun x : ByteArray => .string x) (tSlice 3 (tInt .i64)) b0z4 a0.incs, .blk b2 89 [vI a1.Kind, .string a1.Key, vI a1.Arg, vB a1.Got, vS A1z0 a1.Vals.length c1z0]]) (by kernel_rfl) ?_
          replace hI := hI.drew'
          refine hg (n := 7) [(0, .p), (1, .p), (2, .p), (3, .p), (5, .p), (6, .l 0 0)] (fun _ hS => (gA (hS.grp 4 rfl))) (hI.pk [1, 2, 4, 5, 6]) ?_
          refine held_each (n := 6) [4, 7] (by simp) (by kernel_rfl) ⟨⟨_, rfl, by kernel_rfl, ?_⟩, ⟨_, rfl, by kernel_rfl, ?_⟩, trivial⟩
          · refine (e_read (ops := #[]) [(b0z, 0, [vS A260 ((a0.keys ++ ([a1.Key] : List ByteArray)).length) c261, .map (some b0z1), vS A0z2 a0.types.length c0z2, .map (some b0z3), .map (some b0z4)])] (.l 0 2) (vS A0z2 a0.types.length c0z2) [] ⟨(hI.grp 0 rfl), trivial⟩ trivial (by kernel_rfl) (by kernel_rfl) (by kernel_rfl) ⟨(hI.pk [1, 2, 4, 5, 6]), ?_⟩)
            refine ho (n := 5) 7 rfl (ec (enter47 _) (index_typeOf_calls a1.Kind (memOf _) _ (Inv.start _) _ hy264) ?_)
            rintro _ _ ⟨rfl, hI'⟩
            replace hI := hI.call0 hI'
            clear hI'
            refine ⟨_, rfl, ?_⟩
            refine ⟨(hI.pk [1, 2, 4, 5, 6]), ?_⟩
            refine ho (n := 4) 8 rfl (e_partsS 32 3 1 _ _ _ #[vI y263] [vI y263] rfl rfl rfl rfl (by kernel_rfl) (by kernel_rfl) (by kernel_rfl) (by kernel_rfl) hI ?_)
            clear hI
            intro b272 _ hs273 hI
            refine ⟨(hI.pk [1, 2, 4, 5, 6]), ?_⟩
            refine ho (n := 3) 9 rfl (e_append (tInt .i64) 32 0 3 _ _ _ _ A0z2 a0.types.length c0z2 a0.types ([y263] : List Int) b272 0 1 1 [vI y263] 3 [] [0, 1, 2, 4, 5, 6, 7] [] [.blk b0z 136 [vS A260 ((a0.keys ++ ([a1.Key] : List ByteArray)).length) c261, .map (some b0z1), vS A0z2 a0.types.length c0z2, .map (some b0z3), .map (some b0z4)], .row tStr 9 A260 ((a0.keys ++ ([a1.Key] : List ByteArray)).length) c261 (a0.keys ++ ([a1.Key] : List ByteArray)), mapA (fun x : ByteArray => .string x) (fun x : Int => vI x) b0z1 (mput a0.at_ a1.Key (a0.keys.length : Int)), mapA (fun x : IndexFact => .agg #[.string x.key, vI x.arg]) (fun _ : Unit => .agg #[]) b0z3 a0.facts, mapO (fun x : ByteArray => .string x) (tSlice 3 (tInt .i64)) b0z4 a0.incs, .blk b2 89 [vI a1.Kind, .string a1.Key, vI a1.Arg, vB a1.Got, vS A1z0 a1.Vals.length c1z0], .blk b272 3 [vI y263]] rfl (by kernel_rfl) (by kernel_rfl) rfl rfl rfl rfl rfl (by kernel_rfl) hI (by decide) rfl rfl rfl (hI.grp 7 rfl) g267 (mks_cons (mk_flat (k := (tInt .i64)) y263 [vI y263] rfl) mks_nil) ?_)
            clear hI
            intro A276 c277 _ hI
            replace hI := hI.pick (L' := [.row (tInt .i64) 3 A276 ((a0.types ++ ([y263] : List Int)).length) c277 (a0.types ++ ([y263] : List Int)), .blk b0z 136 [vS A260 ((a0.keys ++ ([a1.Key] : List ByteArray)).length) c261, .map (some b0z1), vS A0z2 a0.types.length c0z2, .map (some b0z3), .map (some b0z4)], .row tStr 9 A260 ((a0.keys ++ ([a1.Key] : List ByteArray)).length) c261 (a0.keys ++ ([a1.Key] : List ByteArray)), mapA (fun x : ByteArray => .string x) (fun x : Int => vI x) b0z1 (mput a0.at_ a1.Key (a0.keys.length : Int)), mapA (fun x : IndexFact => .agg #[.string x.key, vI x.arg]) (fun _ : Unit => .agg #[]) b0z3 a0.facts, mapO (fun x : ByteArray => .string x) (tSlice 3 (tInt .i64)) b0z4 a0.incs, .blk b2 89 [vI a1.Kind, .string a1.Key, vI a1.Arg, vB a1.Got, vS A1z0 a1.Vals.length c1z0]]) [0, 1, 2, 3, 4, 5, 6] (by decide) rfl
            refine ⟨(hI.pk [2, 3, 4, 5, 6]), ?_⟩
            refine hg (n := 1) [(10, .p), (11, .p)] (fun _ hS => gO) (hI.pk [2, 3, 4, 5, 6]) ?_
            refine ho (n := 0) 12 rfl (e_store 32 _ _ 1 b0z 136 [vS A260 ((a0.keys ++ ([a1.Key] : List ByteArray)).length) c261, .map (some b0z1), vS A0z2 a0.types.length c0z2, .map (some b0z3), .map (some b0z4)] [vS A260 ((a0.keys ++ ([a1.Key] : List ByteArray)).length) c261, .map (some b0z1), vS A276 ((a0.types ++ ([y263] : List Int)).length) c277, .map (some b0z3), .map (some b0z4)] 2 (vS A276 ((a0.types ++ ([y263] : List Int)).length) c277) rfl (by kernel_rfl) (by kernel_rfl) (by kernel_rfl) (by kernel_rfl) hI rfl (by kernel_rfl) (by kernel_rfl) ?_)
            clear hI
            intro _ hI
            refine ⟨(hI.pk [2, 3, 4, 5, 6]), ?_⟩
            refine hd ?_
            exact hJ67 (a0.keys ++ ([a1.Key] : List ByteArray), mput a0.at_ a1.Key (a0.keys.length : Int), a0.types ++ ([y263] : List Int), (a0.keys.length : Int)) _ _ ⟨_, A260, c261, A276, c277, at_, hI.pick [1, 2, 3, 0, 4, 5, 6] (by decide) rfl⟩ H
          · refine (e_callf _ _ _ 47 #[] #[] #[vI a1.Kind] #[vI a1.Kind] rfl (by kernel_rfl) (by kernel_rfl) (by kernel_rfl) (enter47 _) (index_typeOf_calls a1.Kind (memOf _) _ (Inv.start _) _ hy264) ?_)
            rintro _ _ ⟨rfl, hI'⟩
            replace hI := hI.call0 hI'
            clear hI'
            refine ⟨_, rfl, ?_⟩
            refine ⟨(hI.pk [1, 2, 4, 5, 6]), ?_⟩
            refine held_each (n := 5) [4, 8] (by simp) (by kernel_rfl) ⟨⟨_, rfl, by kernel_rfl, ?_⟩, ⟨_, rfl, by kernel_rfl, ?_⟩, trivial⟩
            · refine (e_read (ops := #[]) [(b0z, 0, [vS A260 ((a0.keys ++ ([a1.Key] : List ByteArray)).length) c261, .map (some b0z1), vS A0z2 a0.types.length c0z2, .map (some b0z3), .map (some b0z4)])] (.l 0 2) (vS A0z2 a0.types.length c0z2) [] ⟨(hI.grp 0 rfl), trivial⟩ trivial (by kernel_rfl) (by kernel_rfl) (by kernel_rfl) ⟨(hI.pk [1, 2, 4, 5, 6]), ?_⟩)
              refine ho (n := 4) 8 rfl (e_partsS 32 3 1 _ _ _ #[vI y263] [vI y263] rfl rfl rfl rfl (by kernel_rfl) (by kernel_rfl) (by kernel_rfl) (by kernel_rfl) hI ?_)
              clear hI
              intro b282 _ hs283 hI
              refine ⟨(hI.pk [1, 2, 4, 5, 6]), ?_⟩
              refine ho (n := 3) 9 rfl (e_append (tInt .i64) 32 0 3 _ _ _ _ A0z2 a0.types.length c0z2 a0.types ([y263] : List Int) b282 0 1 1 [vI y263] 3 [] [0, 1, 2, 4, 5, 6, 7] [] [.blk b0z 136 [vS A260 ((a0.keys ++ ([a1.Key] : List ByteArray)).length) c261, .map (some b0z1), vS A0z2 a0.types.length c0z2, .map (some b0z3), .map (some b0z4)], .row tStr 9 A260 ((a0.keys ++ ([a1.Key] : List ByteArray)).length) c261 (a0.keys ++ ([a1.Key] : List ByteArray)), mapA (fun x : ByteArray => .string x) (fun x : Int => vI x) b0z1 (mput a0.at_ a1.Key (a0.keys.length : Int)), mapA (fun x : IndexFact => .agg #[.string x.key, vI x.arg]) (fun _ : Unit => .agg #[]) b0z3 a0.facts, mapO (fun x : ByteArray => .string x) (tSlice 3 (tInt .i64)) b0z4 a0.incs, .blk b2 89 [vI a1.Kind, .string a1.Key, vI a1.Arg, vB a1.Got, vS A1z0 a1.Vals.length c1z0], .blk b282 3 [vI y263]] rfl (by kernel_rfl) (by kernel_rfl) rfl rfl rfl rfl rfl (by kernel_rfl) hI (by decide) rfl rfl rfl (hI.grp 7 rfl) g267 (mks_cons (mk_flat (k := (tInt .i64)) y263 [vI y263] rfl) mks_nil) ?_)
              clear hI
              intro A286 c287 _ hI
              replace hI := hI.pick (L' := [.row (tInt .i64) 3 A286 ((a0.types ++ ([y263] : List Int)).length) c287 (a0.types ++ ([y263] : List Int)), .blk b0z 136 [vS A260 ((a0.keys ++ ([a1.Key] : List ByteArray)).length) c261, .map (some b0z1), vS A0z2 a0.types.length c0z2, .map (some b0z3), .map (some b0z4)], .row tStr 9 A260 ((a0.keys ++ ([a1.Key] : List ByteArray)).length) c261 (a0.keys ++ ([a1.Key] : List ByteArray)), mapA (fun x : ByteArray => .string x) (fun x : Int => vI x) b0z1 (mput a0.at_ a1.Key (a0.keys.length : Int)), mapA (fun x : IndexFact => .agg #[.string x.key, vI x.arg]) (fun _ : Unit => .agg #[]) b0z3 a0.facts, mapO (fun x : ByteArray => .string x) (tSlice 3 (tInt .i64)) b0z4 a0.incs, .blk b2 89 [vI a1.Kind, .string a1.Key, vI a1.Arg, vB a1.Got, vS A1z0 a1.Vals.length c1z0]]) [0, 1, 2, 3, 4, 5, 6] (by decide) rfl
              refine ⟨(hI.pk [2, 3, 4, 5, 6]), ?_⟩
              refine hg (n := 1) [(10, .p), (11, .p)] (fun _ hS => gO) (hI.pk [2, 3, 4, 5, 6]) ?_
              refine ho (n := 0) 12 rfl (e_store 32 _ _ 1 b0z 136 [vS A260 ((a0.keys ++ ([a1.Key] : List ByteArray)).length) c261, .map (some b0z1), vS A0z2 a0.types.length c0z2, .map (some b0z3), .map (some b0z4)] [vS A260 ((a0.keys ++ ([a1.Key] : List ByteArray)).length) c261, .map (some b0z1), vS A286 ((a0.types ++ ([y263] : List Int)).length) c287, .map (some b0z3), .map (some b0z4)] 2 (vS A286 ((a0.types ++ ([y263] : List Int)).length) c287) rfl (by kernel_rfl) (by kernel_rfl) (by kernel_rfl) (by kernel_rfl) hI rfl (by kernel_rfl) (by kernel_rfl) ?_)
              clear hI
              intro _ hI
              refine ⟨(hI.pk [2, 3, 4, 5, 6]), ?_⟩
              refine hd ?_
              exact hJ67 (a0.keys ++ ([a1.Key] : List ByteArray), mput a0.at_ a1.Key (a0.keys.length : Int), a0.types ++ ([y263] : List Int), (a0.keys.length : Int)) _ _ ⟨_, A260, c261, A286, c287, at_, hI.pick [1, 2, 3, 0, 4, 5, 6] (by decide) rfl⟩ H
            · refine (e_partsS 32 3 1 _ _ _ #[vI y263] [vI y263] rfl rfl rfl rfl (by kernel_rfl) (by kernel_rfl) (by kernel_rfl) (by kernel_rfl) hI ?_)
              clear hI
              intro b288 _ hs289 hI
              refine ⟨(hI.pk [1, 2, 4, 5, 6]), ?_⟩
              refine ho (n := 4) 4 rfl (e_read (ops := #[]) [(b0z, 0, [vS A260 ((a0.keys ++ ([a1.Key] : List ByteArray)).length) c261, .map (some b0z1), vS A0z2 a0.types.length c0z2, .map (some b0z3), .map (some b0z4)])] (.l 0 2) (vS A0z2 a0.types.length c0z2) [] ⟨(hI.grp 0 rfl), trivial⟩ trivial (by kernel_rfl) (by kernel_rfl) (by kernel_rfl) ⟨(hI.pk [1, 2, 4, 5, 6]), ?_⟩)
              refine ho (n := 3) 9 rfl (e_append (tInt .i64) 32 0 3 _ _ _ _ A0z2 a0.types.length c0z2 a0.types ([y263] : List Int) b288 0 1 1 [vI y263] 3 [] [0, 1, 2, 4, 5, 6, 7] [] [.blk b0z 136 [vS A260 ((a0.keys ++ ([a1.Key] : List ByteArray)).length) c261, .map (some b0z1), vS A0z2 a0.types.length c0z2, .map (some b0z3), .map (some b0z4)], .row tStr 9 A260 ((a0.keys ++ ([a1.Key] : List ByteArray)).length) c261 (a0.keys ++ ([a1.Key] : List ByteArray)), mapA (fun x : ByteArray => .string x) (fun x : Int => vI x) b0z1 (mput a0.at_ a1.Key (a0.keys.length : Int)), mapA (fun x : IndexFact => .agg #[.string x.key, vI x.arg]) (fun _ : Unit => .agg #[]) b0z3 a0.facts, mapO (fun x : ByteArray => .string x) (tSlice 3 (tInt .i64)) b0z4 a0.incs, .blk b2 89 [vI a1.Kind, .string a1.Key, vI a1.Arg, vB a1.Got, vS A1z0 a1.Vals.length c1z0], .blk b288 3 [vI y263]] rfl (by kernel_rfl) (by kernel_rfl) rfl rfl rfl rfl rfl (by kernel_rfl) hI (by decide) rfl rfl rfl (hI.grp 7 rfl) g267 (mks_cons (mk_flat (k := (tInt .i64)) y263 [vI y263] rfl) mks_nil) ?_)
              clear hI
              intro A292 c293 _ hI
              replace hI := hI.pick (L' := [.row (tInt .i64) 3 A292 ((a0.types ++ ([y263] : List Int)).length) c293 (a0.types ++ ([y263] : List Int)), .blk b0z 136 [vS A260 ((a0.keys ++ ([a1.Key] : List ByteArray)).length) c261, .map (some b0z1), vS A0z2 a0.types.length c0z2, .map (some b0z3), .map (some b0z4)], .row tStr 9 A260 ((a0.keys ++ ([a1.Key] : List ByteArray)).length) c261 (a0.keys ++ ([a1.Key] : List ByteArray)), mapA (fun x : ByteArray => .string x) (fun x : Int => vI x) b0z1 (mput a0.at_ a1.Key (a0.keys.length : Int)), mapA (fun x : IndexFact => .agg #[.string x.key, vI x.arg]) (fun _ : Unit => .agg #[]) b0z3 a0.facts, mapO (fun x : ByteArray => .string x) (tSlice 3 (tInt .i64)) b0z4 a0.incs, .blk b2 89 [vI a1.Kind, .string a1.Key, vI a1.Arg, vB a1.Got, vS A1z0 a1.Vals.length c1z0]]) [0, 1, 2, 3, 4, 5, 6] (by decide) rfl
              refine ⟨(hI.pk [2, 3, 4, 5, 6]), ?_⟩
              refine hg (n := 1) [(10, .p), (11, .p)] (fun _ hS => gO) (hI.pk [2, 3, 4, 5, 6]) ?_
              refine ho (n := 0) 12 rfl (e_store 32 _ _ 1 b0z 136 [vS A260 ((a0.keys ++ ([a1.Key] : List ByteArray)).length) c261, .map (some b0z1), vS A0z2 a0.types.length c0z2, .map (some b0z3), .map (some b0z4)] [vS A260 ((a0.keys ++ ([a1.Key] : List ByteArray)).length) c261, .map (some b0z1), vS A292 ((a0.types ++ ([y263] : List Int)).length) c293, .map (some b0z3), .map (some b0z4)] 2 (vS A292 ((a0.types ++ ([y263] : List Int)).length) c293) rfl (by kernel_rfl) (by kernel_rfl) (by kernel_rfl) (by kernel_rfl) hI rfl (by kernel_rfl) (by kernel_rfl) ?_)
              clear hI
              intro _ hI
              refine ⟨(hI.pk [2, 3, 4, 5, 6]), ?_⟩
              refine hd ?_
              exact hJ67 (a0.keys ++ ([a1.Key] : List ByteArray), mput a0.at_ a1.Key (a0.keys.length : Int), a0.types ++ ([y263] : List Int), (a0.keys.length : Int)) _ _ ⟨_, A260, c261, A292, c293, at_, hI.pick [1, 2, 3, 0, 4, 5, 6] (by decide) rfl⟩ H
        · replace H := must_some H
          obtain ⟨g296, H⟩ := H
          refine go_held (fun w => Inv M w [mapA (fun x : ByteArray => .string x) (fun x : Int => vI x) b0z1 (mput a0.at_ a1.Key (a0.keys.length : Int)), .row (tInt .i64) 3 A0z2 a0.types.length c0z2 a0.types, mapA (fun x : IndexFact => .agg #[.string x.key, vI x.arg]) (fun _ : Unit => .agg #[]) b0z3 a0.facts, mapO (fun x : ByteArray => .string x) (tSlice 3 (tInt .i64)) b0z4 a0.incs, .blk b2 89 [vI a1.Kind, .string a1.Key, vI a1.Arg, vB a1.Got, vS A1z0 a1.Vals.length c1z0]]) (by kernel_rfl) ?_
          replace hI := hI.drew'
          refine hg (n := 6) [(0, .p), (1, .p), (2, .p), (3, .p), (5, .p), (6, .l 0 1)] (fun _ hS => (gA (hS.grp 4 rfl))) (hI.pk [2, 3, 4, 5, 6]) ?_
          refine held_each (n := 5) [4, 7] (by simp) (by kernel_rfl) ⟨⟨_, rfl, by kernel_rfl, ?_⟩, ⟨_, rfl, by kernel_rfl, ?_⟩, trivial⟩
          · refine (e_read (ops := #[]) [(b0z, 0, [vS A0z0 a0.keys.length c0z0, .map (some b0z1), vS A0z2 a0.types.length c0z2, .map (some b0z3), .map (some b0z4)])] (.l 0 0) (vS A0z0 a0.keys.length c0z0) [] ⟨(hI.grp 0 rfl), trivial⟩ trivial (by kernel_rfl) (by kernel_rfl) (by kernel_rfl) ⟨(hI.pk [2, 3, 4, 5, 6]), ?_⟩)
            refine ho (n := 4) 7 rfl (e_partsS 22 9 1 _ _ _ #[.string a1.Key] [.string a1.Key] rfl rfl rfl rfl (by kernel_rfl) (by kernel_rfl) (by kernel_rfl) (by kernel_rfl) hI ?_)
            clear hI
            intro b303 _ hs304 hI
            refine ⟨(hI.pk [2, 3, 4, 5, 6]), ?_⟩
            refine ho (n := 3) 8 rfl (e_append tStr 22 0 9 _ _ _ _ A0z0 a0.keys.length c0z0 a0.keys ([a1.Key] : List ByteArray) b303 0 1 1 [.string a1.Key] 1 [] [0, 2, 3, 4, 5, 6, 7] [] [.blk b0z 136 [vS A0z0 a0.keys.length c0z0, .map (some b0z1), vS A0z2 a0.types.length c0z2, .map (some b0z3), .map (some b0z4)], mapA (fun x : ByteArray => .string x) (fun x : Int => vI x) b0z1 (mput a0.at_ a1.Key (a0.keys.length : Int)), .row (tInt .i64) 3 A0z2 a0.types.length c0z2 a0.types, mapA (fun x : IndexFact => .agg #[.string x.key, vI x.arg]) (fun _ : Unit => .agg #[]) b0z3 a0.facts, mapO (fun x : ByteArray => .string x) (tSlice 3 (tInt .i64)) b0z4 a0.incs, .blk b2 89 [vI a1.Kind, .string a1.Key, vI a1.Arg, vB a1.Got, vS A1z0 a1.Vals.length c1z0], .blk b303 9 [.string a1.Key]] rfl (by kernel_rfl) (by kernel_rfl) rfl rfl rfl rfl rfl (by kernel_rfl) hI (by decide) rfl rfl rfl (hI.grp 7 rfl) g296 (mks_cons (mk_flat (k := tStr) a1.Key [.string a1.Key] rfl) mks_nil) ?_)
            clear hI
            intro A307 c308 _ hI
            replace hI := hI.pick (L' := [.row tStr 9 A307 ((a0.keys ++ ([a1.Key] : List ByteArray)).length) c308 (a0.keys ++ ([a1.Key] : List ByteArray)), .blk b0z 136 [vS A0z0 a0.keys.length c0z0, .map (some b0z1), vS A0z2 a0.types.length c0z2, .map (some b0z3), .map (some b0z4)], mapA (fun x : ByteArray => .string x) (fun x : Int => vI x) b0z1 (mput a0.at_ a1.Key (a0.keys.length : Int)), .row (tInt .i64) 3 A0z2 a0.types.length c0z2 a0.types, mapA (fun x : IndexFact => .agg #[.string x.key, vI x.arg]) (fun _ : Unit => .agg #[]) b0z3 a0.facts, mapO (fun x : ByteArray => .string x) (tSlice 3 (tInt .i64)) b0z4 a0.incs, .blk b2 89 [vI a1.Kind, .string a1.Key, vI a1.Arg, vB a1.Got, vS A1z0 a1.Vals.length c1z0]]) [0, 1, 2, 3, 4, 5, 6] (by decide) rfl
            refine ⟨(hI.pk [2, 3, 4, 5, 6]), ?_⟩
            refine hg (n := 1) [(9, .p), (10, .p)] (fun _ hS => gO) (hI.pk [2, 3, 4, 5, 6]) ?_
            refine ho (n := 0) 11 rfl (e_store 22 _ _ 1 b0z 136 [vS A0z0 a0.keys.length c0z0, .map (some b0z1), vS A0z2 a0.types.length c0z2, .map (some b0z3), .map (some b0z4)] [vS A307 ((a0.keys ++ ([a1.Key] : List ByteArray)).length) c308, .map (some b0z1), vS A0z2 a0.types.length c0z2, .map (some b0z3), .map (some b0z4)] 0 (vS A307 ((a0.keys ++ ([a1.Key] : List ByteArray)).length) c308) rfl (by kernel_rfl) (by kernel_rfl) (by kernel_rfl) (by kernel_rfl) hI rfl (by kernel_rfl) (by kernel_rfl) ?_)
            clear hI
            intro _ hI
            refine ⟨(hI.pk [2, 3, 4, 5, 6]), ?_⟩
            refine hd ?_
            exact hJ262 () _ _ ⟨_, A307, c308, at_, hI.pick [1, 0, 2, 3, 4, 5, 6] (by decide) rfl⟩ H
          · refine (e_partsS 22 9 1 _ _ _ #[.string a1.Key] [.string a1.Key] rfl rfl rfl rfl (by kernel_rfl) (by kernel_rfl) (by kernel_rfl) (by kernel_rfl) hI ?_)
            clear hI
            intro b309 _ hs310 hI
            refine ⟨(hI.pk [2, 3, 4, 5, 6]), ?_⟩
            refine ho (n := 4) 4 rfl (e_read (ops := #[]) [(b0z, 0, [vS A0z0 a0.keys.length c0z0, .map (some b0z1), vS A0z2 a0.types.length c0z2, .map (some b0z3), .map (some b0z4)])] (.l 0 0) (vS A0z0 a0.keys.length c0z0) [] ⟨(hI.grp 0 rfl), trivial⟩ trivial (by kernel_rfl) (by kernel_rfl) (by kernel_rfl) ⟨(hI.pk [2, 3, 4, 5, 6]), ?_⟩)
            refine ho (n := 3) 8 rfl (e_append tStr 22 0 9 _ _ _ _ A0z0 a0.keys.length c0z0 a0.keys ([a1.Key] : List ByteArray) b309 0 1 1 [.string a1.Key] 1 [] [0, 2, 3, 4, 5, 6, 7] [] [.blk b0z 136 [vS A0z0 a0.keys.length c0z0, .map (some b0z1), vS A0z2 a0.types.length c0z2, .map (some b0z3), .map (some b0z4)], mapA (fun x : ByteArray => .string x) (fun x : Int => vI x) b0z1 (mput a0.at_ a1.Key (a0.keys.length : Int)), .row (tInt .i64) 3 A0z2 a0.types.length c0z2 a0.types, mapA (fun x : IndexFact => .agg #[.string x.key, vI x.arg]) (fun _ : Unit => .agg #[]) b0z3 a0.facts, mapO (fun x : ByteArray => .string x) (tSlice 3 (tInt .i64)) b0z4 a0.incs, .blk b2 89 [vI a1.Kind, .string a1.Key, vI a1.Arg, vB a1.Got, vS A1z0 a1.Vals.length c1z0], .blk b309 9 [.string a1.Key]] rfl (by kernel_rfl) (by kernel_rfl) rfl rfl rfl rfl rfl (by kernel_rfl) hI (by decide) rfl rfl rfl (hI.grp 7 rfl) g296 (mks_cons (mk_flat (k := tStr) a1.Key [.string a1.Key] rfl) mks_nil) ?_)
            clear hI
            intro A313 c314 _ hI
            replace hI := hI.pick (L' := [.row tStr 9 A313 ((a0.keys ++ ([a1.Key] : List ByteArray)).length) c314 (a0.keys ++ ([a1.Key] : List ByteArray)), .blk b0z 136 [vS A0z0 a0.keys.length c0z0, .map (some b0z1), vS A0z2 a0.types.length c0z2, .map (some b0z3), .map (some b0z4)], mapA (fun x : ByteArray => .string x) (fun x : Int => vI x) b0z1 (mput a0.at_ a1.Key (a0.keys.length : Int)), .row (tInt .i64) 3 A0z2 a0.types.length c0z2 a0.types, mapA (fun x : IndexFact => .agg #[.string x.key, vI x.arg]) (fun _ : Unit => .agg #[]) b0z3 a0.facts, mapO (fun x : ByteArray => .string x) (tSlice 3 (tInt .i64)) b0z4 a0.incs, .blk b2 89 [vI a1.Kind, .string a1.Key, vI a1.Arg, vB a1.Got, vS A1z0 a1.Vals.length c1z0]]) [0, 1, 2, 3, 4, 5, 6] (by decide) rfl
            refine ⟨(hI.pk [2, 3, 4, 5, 6]), ?_⟩
            refine hg (n := 1) [(9, .p), (10, .p)] (fun _ hS => gO) (hI.pk [2, 3, 4, 5, 6]) ?_
            refine ho (n := 0) 11 rfl (e_store 22 _ _ 1 b0z 136 [vS A0z0 a0.keys.length c0z0, .map (some b0z1), vS A0z2 a0.types.length c0z2, .map (some b0z3), .map (some b0z4)] [vS A313 ((a0.keys ++ ([a1.Key] : List ByteArray)).length) c314, .map (some b0z1), vS A0z2 a0.types.length c0z2, .map (some b0z3), .map (some b0z4)] 0 (vS A313 ((a0.keys ++ ([a1.Key] : List ByteArray)).length) c314) rfl (by kernel_rfl) (by kernel_rfl) (by kernel_rfl) (by kernel_rfl) hI rfl (by kernel_rfl) (by kernel_rfl) ?_)
            clear hI
            intro _ hI
            refine ⟨(hI.pk [2, 3, 4, 5, 6]), ?_⟩
            refine hd ?_
            exact hJ262 () _ _ ⟨_, A313, c314, at_, hI.pick [1, 0, 2, 3, 4, 5, 6] (by decide) rfl⟩ H
    · refine ge hc236 (go_skip ?_)
      exact hJ67 (a0.keys, a0.at_, a0.types, mat a0.at_ a1.Key) _ _ ⟨_, A0z0, c0z0, A0z2, c0z2, at_, hI⟩ H
theorem enter17 (a : Array Value) : Sem.pureRun Try.prog (callFunc 17 a) = some (.enter 17 a) := by kernel_rfl
theorem index_Check_calls (a0 : History) (A0z0 : Option Addr) (c0z0 : Nat) (A0z1 : Option Addr) (c0z1 : Nat) (M : Mem) (w : World) (hI : Inv M w []) (hr0z0 : rdS tStr M.blk A0z0 a0.Keys) (hl0z0 : a0.Keys.length ≤ c0z0) (hr0z1 : rdS kTxn M.blk A0z1 a0.Txns) (hl0z1 : a0.Txns.length ≤ c0z1) (r : Int) (H : index_Check a0 = some r) :
    Calls Try.prog 17 #[.agg #[vS A0z0 a0.Keys.length c0z0, vS A0z1 a0.Txns.length c0z1]] w fun e w' => e = .returned (vI r) ∧ Inv M w' [] := by
  refine cg Try.func17 ?_
  intro cs
  unfold index_Check at H
  refine go_seq (r_in (oe 0 rfl ?_))
  refine e_box 25 _ (.agg #[vS A0z0 a0.Keys.length c0z0, vS A0z1 a0.Txns.length c0z1]) [vS A0z0 a0.Keys.length c0z0, vS A0z1 a0.Txns.length c0z1] rfl (by kernel_rfl) rfl hI ?_
  clear hI
  intro b2 _ hI
  refine bp 1 1 (ro (go_seq ?_))
  refine go_seq_join (o := r) (fun b7 f w => ∃ (j : Nat → Value), f = updL j [(1, vP b2 0), (21, vB b7)] ∧ Inv M w [.blk b2 25 [vS A0z0 a0.Keys.length c0z0, vS A0z1 a0.Txns.length c0z1]]) (fun b7 => index_Check.j1 a0 b7) ?_ (fun hJ8 => ?_)
  · clear H hI
    rintro b7 _ _ ⟨_, rfl, hI⟩ H
    replace H := cond_some H
    rcases H with ⟨hc9, H⟩ | ⟨hc9, H⟩
    · refine gt hc9 (go_seq (rp 1 ?_))
      replace H := Option.some.inj H
      subst H
      exact gr Try.func17 ⟨rfl, hI.pn⟩
    · refine ge hc9 (go_skip (go_seq (go_seq (rg [.p, .l 0 0, .p, .p] (gA (hI.grp 0 rfl)) (go_block ?_)))))
      refine go_iter (index_Check.s2 a0) (fun x147 f w => ∃ (j : Nat → Value), f = updL j [(1, vP b2 0), (23, vS A0z0 a0.Keys.length c0z0), (24, vI (a0.Keys.length : Int)), (25, vI x147)] ∧ Inv M w [.blk b2 25 [vS A0z0 a0.Keys.length c0z0, vS A0z1 a0.Txns.length c0z1]]) H ⟨_, at_, hI⟩ ?_
      clear H hI
      rintro x147 _ _ o1 H ⟨_, rfl, hI⟩ hin1 hout1
      refine go_seq (rp 1 (go_seq ?_))
      replace H := cond_some H
      rcases H with ⟨hc149, H⟩ | ⟨hc149, H⟩
      · refine gt hc149 (go_skip (go_seq (go_block (go_seq (r_in ?_)))))
        replace H := must_some H
        obtain ⟨g181, H⟩ := H
        obtain ⟨b182, q183, rfl, _⟩ := rdS.fopen hr0z0 rfl g181
        refine bx 0 [.p, .x, .l 0 0, .p, .p] (gA (hI.lies (rdS.flook hr0z0 rfl g181))) _ (bZ g181) (ro ?_)
        refine go_seq_join (o := o1) (fun b193 f w => ∃ (j : Nat → Value), f = updL j [(1, vP b2 0), (23, vS (some ⟨b182, q183, none⟩) a0.Keys.length c0z0), (24, vI (a0.Keys.length : Int)), (25, vI x147), (44, vB b193)] ∧ Inv M w [.blk b2 25 [vS (some ⟨b182, q183, none⟩) a0.Keys.length c0z0, vS A0z1 a0.Txns.length c0z1]]) (fun b193 => index_Check.j3 x147 b193) ?_ (fun hJ194 => ?_)
        · clear H hI
          rintro b193 _ _ ⟨_, rfl, hI⟩ H
          replace H := cond_some H
          rcases H with ⟨hc195, H⟩ | ⟨hc195, H⟩
          · refine gt hc195 (go_seq (rp 1 ?_))
            replace H := out_some H
            obtain ⟨_, H, he1⟩ := H
            have he := (hout1 _ he1).symm
            subst he
            replace H := Option.some.inj H
            subst H
            exact gr Try.func17 ⟨rfl, hI.pn⟩
          · refine ge hc195 (go_skip (go_inBlock (rp 2 ?_)))
            exact hin1 _ (Option.some.inj H).symm _ _ ⟨_, at_, hI⟩
        · refine r_in ?_
          replace H := cond_some H
          rcases H with ⟨hc196, H⟩ | ⟨hc196, H⟩
          · refine bx 0 [.p, .p, .c true, .p, .p, .p, .p, .p, .p, .p, .p, .p, .p, .p, .p] gO _ (bZ (bndEq hc196)) (ro ?_)
            exact hJ194 true _ _ ⟨_, at_, hI⟩ H
          · replace H := cond_some H
            rcases H with ⟨hc197, H⟩ | ⟨hc197, H⟩
            · refine bx 0 [.p, .p, .c false, .p, .p, .p, .p, .c true, .p, .p, .p, .p, .p, .p, .p] gO _ (bC (bndEq hc196) (bZ (bndEq hc197))) (ro ?_)
              exact hJ194 true _ _ ⟨_, at_, hI⟩ H
            · refine bx 0 [.p, .p, .c false, .p, .p, .p, .p, .c false, .p, .l 0 0, .p] (gA (hI.grp 0 rfl)) _ (bC (bndEq hc196) (bZ (bndEq hc197))) ?_
              replace H := must_some H
              obtain ⟨g198, H⟩ := H
              refine oe 11 rfl ?_
              refine e_slice_ro tStr _ 22 9 _ _ _ _ (some ⟨b182, q183, none⟩) c0z0 a0.Keys .i64 .i64 (0 : Int) x147 rfl (by kernel_rfl) (by kernel_rfl) (by kernel_rfl) rfl rfl rfl hr0z0 hl0z0 g198 ?_
              intro A199 c200 hr201 hl202
              refine bp 12 1 ?_
              replace H := bind_some H
              obtain ⟨y203, hy204, H⟩ := H
              refine oe 13 rfl ?_
              refine ec (enter40 _) (slices_Contains_string_calls A199 c200 (subl a0.Keys (0 : Int) x147) (idx a0.Keys x147) (memOf _) _ (Inv.start _) (hI.rd hr201) hl202 _ hy204) ?_
              rintro _ _ ⟨rfl, hI'⟩
              replace hI := hI.call0 hI'
              clear hI'
              refine ⟨_, rfl, ?_⟩
              refine bp 14 1 (ro ?_)
              exact hJ194 y203 _ _ ⟨_, at_, hI⟩ H
      · refine ge hc149 ?_
        refine go_exit rfl ?_
        refine go_seq (r_in ?_)
        replace H := bind_some H
        obtain ⟨y215, hy216, H⟩ := H
        refine oe 0 rfl ?_
        refine ec (enter41 _) (index_newLedger_calls (memOf _) _ (Inv.start _) _ hy216) ?_
        rintro _ _ ⟨b217, A218, c219, b220, A221, c222, b223, b224, rfl, hI'⟩
        replace hI := hI.call0 hI'
        clear hI'
        refine ⟨_, rfl, ?_⟩
        refine bp 1 1 (ro (go_seq (go_seq (rg [.p, .l 0 1, .p, .p] (gA (hI.grp 0 rfl)) (go_block ?_)))))
        refine go_iter (index_Check.s4 a0) (fun (l1910, m1913, l1915, m1918, m1920, x1922) f w => ∃ (j : Nat → Value) (A1911 : Option Addr) (c1912 : Nat) (b1914 : Nat) (A1916 : Option Addr) (c1917 : Nat) (b1919 : Nat) (b1921 : Nat), f = updL j [(1, vP b2 0), (5, vP b217 0), (48, vS A0z1 a0.Txns.length c0z1), (49, vI (a0.Txns.length : Int)), (50, vI x1922)] ∧ Inv M w [.blk b2 25 [vS A0z0 a0.Keys.length c0z0, vS A0z1 a0.Txns.length c0z1], .blk b217 136 [vS A1911 l1910.length c1912, .map (some b1914), vS A1916 l1915.length c1917, .map (some b1919), .map (some b1921)], .row tStr 9 A1911 l1910.length c1912 l1910, mapA (fun x : ByteArray => .string x) (fun x : Int => vI x) b1914 m1913, .row (tInt .i64) 3 A1916 l1915.length c1917 l1915, mapA (fun x : IndexFact => .agg #[.string x.key, vI x.arg]) (fun _ : Unit => .agg #[]) b1919 m1918, mapO (fun x : ByteArray => .string x) (tSlice 3 (tInt .i64)) b1921 m1920]) H ⟨_, A218, c219, b220, A221, c222, b223, b224, at_, hI⟩ ?_
        clear H hI
        rintro ⟨l1910, m1913, l1915, m1918, m1920, x1922⟩ _ _ o2 H ⟨_, A1911, c1912, b1914, A1916, c1917, b1919, b1921, rfl, hI⟩ hin2 hout2
        refine go_seq (rp 1 (go_seq ?_))
        replace H := cond_some H
        rcases H with ⟨hc1924, H⟩ | ⟨hc1924, H⟩
        · refine gt hc1924 (go_skip (go_seq (go_block (go_seq (r_in ?_)))))
          replace H := must_some H
          obtain ⟨g2300, H⟩ := H
          obtain ⟨b2304, q2305, rfl, cs2303, hk2302, hg2301⟩ := rdS.open hr0z1 rfl g2300
          obtain ⟨_, _, rfl, rfl, ⟨_, _, rfl, rfl, ⟨_, _, rfl, rfl, ⟨_, _, rfl, rfl, ⟨A2306, c2307, rfl, hl2309, hr2308⟩⟩⟩⟩⟩ := hk2302
          refine bx 0 [.p, .x, .l 0 0] (gA (hI.lies hg2301)) _ (bZ g2300) (oe 3 rfl ?_)
          refine e_alloc 41 (.agg #[vI 0, vI 0, vI 0, vI 0, vS none 0 0]) [vI 0, vI 0, vI 0, vI 0, vS none 0 0] rfl (by kernel_rfl) rfl hI ?_
          clear hI
          intro b2310 _ hI
          refine bp 4 1 (oe 5 rfl ?_)
          refine e_store 41 _ _ 7 b2310 41 [vI 0, vI 0, vI 0, vI 0, vS none 0 0] [vI ((idx a0.Txns x1922).Proc), vI ((idx a0.Txns x1922).Status), vI ((idx a0.Txns x1922).From), vI ((idx a0.Txns x1922).To), vS A2306 (((idx a0.Txns x1922).Ops).length) c2307] 0 (.agg #[vI ((idx a0.Txns x1922).Proc), vI ((idx a0.Txns x1922).Status), vI ((idx a0.Txns x1922).From), vI ((idx a0.Txns x1922).To), vS A2306 (((idx a0.Txns x1922).Ops).length) c2307]) rfl (by kernel_rfl) (by kernel_rfl) (by kernel_rfl) (by kernel_rfl) hI rfl (by kernel_rfl) (by kernel_rfl) ?_
          clear hI
          intro _ hI
          refine ro (go_seq (r_in (bg 0 [.l 0 0, .l 1 0] (gB (hI.grp 0 rfl) (hI.grp 7 rfl)) ?_)))
          replace H := bind_some H
          obtain ⟨y2316, hy2317, H⟩ := H
          refine oe 2 rfl ?_
          refine ec (enter42 _) (index_calls_calls a0 A0z0 c0z0 (some ⟨b2304, q2305, none⟩) c0z1 (idx a0.Txns x1922) A2306 c2307 (memOf _) _ (Inv.start _) M.blk hI.fix hr0z0 hl0z0 hr0z1 hl0z1 hr2308 hl2309 _ hy2317) ?_
          rintro _ _ ⟨A2318, c2319, rfl, hI'⟩
          replace hI := hI.call0 hI'
          clear hI'
          refine ⟨_, rfl, ?_⟩
          refine bp 3 3 (oe 6 rfl ?_)
          refine e_alloc 84 (.agg #[vI 0, vI 0, vS none 0 0]) [vI 0, vI 0, vS none 0 0] rfl (by kernel_rfl) rfl hI ?_
          clear hI
          intro b2320 _ hI
          refine oe 7 rfl ?_
          refine e_store 84 _ _ 9 b2320 84 [vI 0, vI 0, vS none 0 0] [vI y2316.1.Proc, vI y2316.1.Kind, vS A2318 y2316.1.Calls.length c2319] 0 (.agg #[vI y2316.1.Proc, vI y2316.1.Kind, vS A2318 y2316.1.Calls.length c2319]) rfl (by kernel_rfl) (by kernel_rfl) (by kernel_rfl) (by kernel_rfl) hI rfl (by kernel_rfl) (by kernel_rfl) ?_
          clear hI
          intro _ hI
          refine bp 8 1 (ro (go_seq ?_))
          refine go_seq_join (o := o2) (fun b2339 f w => ∃ (j : Nat → Value), f = updL j [(1, vP b2 0), (5, vP b217 0), (6, vI x1922), (8, vP b2320 0), (48, vS (some ⟨b2304, q2305, none⟩) a0.Txns.length c0z1), (49, vI (a0.Txns.length : Int)), (50, vI x1922), (71, vB b2339)] ∧ Inv M w [.blk b2 25 [vS A0z0 a0.Keys.length c0z0, vS (some ⟨b2304, q2305, none⟩) a0.Txns.length c0z1], .blk b217 136 [vS A1911 l1910.length c1912, .map (some b1914), vS A1916 l1915.length c1917, .map (some b1919), .map (some b1921)], .row tStr 9 A1911 l1910.length c1912 l1910, mapA (fun x : ByteArray => .string x) (fun x : Int => vI x) b1914 m1913, .row (tInt .i64) 3 A1916 l1915.length c1917 l1915, mapA (fun x : IndexFact => .agg #[.string x.key, vI x.arg]) (fun _ : Unit => .agg #[]) b1919 m1918, mapO (fun x : ByteArray => .string x) (tSlice 3 (tInt .i64)) b1921 m1920, .blk b2320 84 [vI y2316.1.Proc, vI y2316.1.Kind, vS A2318 y2316.1.Calls.length c2319], .row (kCallL M.blk) 89 A2318 y2316.1.Calls.length c2319 y2316.1.Calls]) (fun b2339 => index_Check.j5 l1910 m1913 l1915 m1918 m1920 x1922 y2316 b2339) ?_ (fun hJ2340 => ?_)
          · clear H hI
            rintro b2339 _ _ ⟨_, rfl, hI⟩ H
            replace H := cond_some H
            rcases H with ⟨hc2341, H⟩ | ⟨hc2341, H⟩
            · refine gt hc2341 (go_seq (rp 1 ?_))
              replace H := out_some H
              obtain ⟨_, H, he2⟩ := H
              have he := (hout2 _ he2).symm
              subst he
              replace H := out_some H
              obtain ⟨_, H, he1⟩ := H
              have he := (hout1 _ he1).symm
              subst he
              replace H := Option.some.inj H
              subst H
              exact gr Try.func17 ⟨rfl, hI.pn⟩
            · refine ge hc2341 (go_skip (go_seq (rg [.p, .l 0 2, .p, .p] (gA (hI.grp 7 rfl)) (go_block ?_))))
              refine go_iter (index_Check.s6 x1922 y2316) (fun (l2615, m2618, l2620, m2623, m2625, x2627) f w => ∃ (j : Nat → Value) (A2616 : Option Addr) (c2617 : Nat) (b2619 : Nat) (A2621 : Option Addr) (c2622 : Nat) (b2624 : Nat) (b2626 : Nat), f = updL j [(1, vP b2 0), (5, vP b217 0), (6, vI x1922), (48, vS (some ⟨b2304, q2305, none⟩) a0.Txns.length c0z1), (49, vI (a0.Txns.length : Int)), (50, vI x1922), (73, vS A2318 y2316.1.Calls.length c2319), (74, vI (y2316.1.Calls.length : Int)), (75, vI x2627)] ∧ Inv M w [.blk b2 25 [vS A0z0 a0.Keys.length c0z0, vS (some ⟨b2304, q2305, none⟩) a0.Txns.length c0z1], .blk b217 136 [vS A2616 l2615.length c2617, .map (some b2619), vS A2621 l2620.length c2622, .map (some b2624), .map (some b2626)], .row tStr 9 A2616 l2615.length c2617 l2615, mapA (fun x : ByteArray => .string x) (fun x : Int => vI x) b2619 m2618, .row (tInt .i64) 3 A2621 l2620.length c2622 l2620, mapA (fun x : IndexFact => .agg #[.string x.key, vI x.arg]) (fun _ : Unit => .agg #[]) b2624 m2623, mapO (fun x : ByteArray => .string x) (tSlice 3 (tInt .i64)) b2626 m2625, .row (kCallL M.blk) 89 A2318 y2316.1.Calls.length c2319 y2316.1.Calls]) H ⟨_, A1911, c1912, b1914, A1916, c1917, b1919, b1921, at_, hI.pick [0, 1, 2, 3, 4, 5, 6, 8] (by decide) rfl⟩ ?_
              clear H hI
              rintro ⟨l2615, m2618, l2620, m2623, m2625, x2627⟩ _ _ o3 H ⟨_, A2616, c2617, b2619, A2621, c2622, b2624, b2626, rfl, hI⟩ hin3 hout3
              refine go_seq (rp 1 (go_seq ?_))
              replace H := cond_some H
              rcases H with ⟨hc2629, H⟩ | ⟨hc2629, H⟩
              · refine gt hc2629 (go_skip (go_seq (go_block (go_seq (r_in ?_)))))
                replace H := must_some H
                obtain ⟨g2690, H⟩ := H
                obtain ⟨b2691, rfl⟩ := hI.rowAt 7 rfl g2690
                obtain ⟨cs2694, hk2693, hg2692⟩ := rdS.look (hI.row 7 rfl) (hI.rowlen 7 rfl) g2690
                obtain ⟨_, _, rfl, rfl, ⟨_, _, rfl, rfl, ⟨_, _, rfl, rfl, ⟨_, _, rfl, rfl, ⟨A2695, c2696, rfl, hl2698, hr2697⟩⟩⟩⟩⟩ := hk2693
                refine bx 0 [.x, .l 0 0] (gA hg2692.ok) _ (bZ g2690) (oe 2 rfl ?_)
                refine e_alloc 89 (.agg #[vI 0, .string (⟨#[]⟩ : ByteArray), vI 0, vB false, vS none 0 0]) [vI 0, .string (⟨#[]⟩ : ByteArray), vI 0, vB false, vS none 0 0] rfl (by kernel_rfl) rfl hI ?_
                clear hI
                intro b2699 _ hI
                refine oe 3 rfl ?_
                refine e_store 89 _ _ 8 b2699 89 [vI 0, .string (⟨#[]⟩ : ByteArray), vI 0, vB false, vS none 0 0] [vI ((idx y2316.1.Calls x2627).Kind), .string ((idx y2316.1.Calls x2627).Key), vI ((idx y2316.1.Calls x2627).Arg), vB ((idx y2316.1.Calls x2627).Got), vS A2695 (((idx y2316.1.Calls x2627).Vals).length) c2696] 0 (.agg #[vI ((idx y2316.1.Calls x2627).Kind), .string ((idx y2316.1.Calls x2627).Key), vI ((idx y2316.1.Calls x2627).Arg), vB ((idx y2316.1.Calls x2627).Got), vS A2695 (((idx y2316.1.Calls x2627).Vals).length) c2696]) rfl (by kernel_rfl) (by kernel_rfl) (by kernel_rfl) (by kernel_rfl) hI rfl (by kernel_rfl) (by kernel_rfl) ?_
                clear hI
                intro _ hI
                refine ro (go_seq (r_in (bg 0 [.p, .l 0 0, .p] (gA (hI.grp 8 rfl)) ?_)))
                replace H := bind_some H
                obtain ⟨y2719, hy2720, H⟩ := H
                obtain ⟨M2714, hJ2715, hs2716, hro2717, hback2718⟩ := hI.call (R := [.blk b217 136 [vS A2616 l2615.length c2617, .map (some b2619), vS A2621 l2620.length c2622, .map (some b2624), .map (some b2626)], .row tStr 9 A2616 l2615.length c2617 l2615, mapA (fun x : ByteArray => .string x) (fun x : Int => vI x) b2619 m2618, .row (tInt .i64) 3 A2621 l2620.length c2622 l2620, mapA (fun x : IndexFact => .agg #[.string x.key, vI x.arg]) (fun _ : Unit => .agg #[]) b2624 m2623, mapO (fun x : ByteArray => .string x) (tSlice 3 (tInt .i64)) b2626 m2625]) (L0 := [.blk b2 25 [vS A0z0 a0.Keys.length c0z0, vS (some ⟨b2304, q2305, none⟩) a0.Txns.length c0z1], .row (kCallL M.blk) 89 (some ⟨b2691, 0, none⟩) y2316.1.Calls.length c2319 y2316.1.Calls, .blk b2699 89 [vI ((idx y2316.1.Calls x2627).Kind), .string ((idx y2316.1.Calls x2627).Key), vI ((idx y2316.1.Calls x2627).Arg), vB ((idx y2316.1.Calls x2627).Got), vS A2695 (((idx y2316.1.Calls x2627).Vals).length) c2696]]) [1, 2, 3, 4, 5, 6] [0, 7, 8] (by decide) rfl
                refine oe 3 rfl ?_
                refine ec (enter44 _) (index_ledger_enter_calls b217 (⟨l2615, m2618, l2620, m2623, m2625⟩ : IndexLedger) A2616 c2617 b2619 A2621 c2622 b2624 b2626 (idx y2316.1.Calls x2627) A2695 c2696 x1922 M2714 _ hJ2715 (rdS.mono hr2697 hs2716) hl2698 _ hy2720) ?_
                rintro _ _ ⟨A2721, c2722, b2723, A2724, c2725, b2726, b2727, rfl, hI'⟩
                replace hI := hback2718 _ _ hI'
                clear hI'
                refine ⟨_, rfl, ?_⟩
                refine bp 4 1 (ro ?_)
                replace H := cond_some H
                rcases H with ⟨hc2728, H⟩ | ⟨hc2728, H⟩
                · refine gt hc2728 (go_seq (rp 1 ?_))
                  replace H := out_some H
                  obtain ⟨_, H, he3⟩ := H
                  have he := (hout3 _ he3).symm
                  subst he
                  replace H := out_some H
                  obtain ⟨_, H, he2⟩ := H
                  have he := (hout2 _ he2).symm
                  subst he
                  replace H := out_some H
                  obtain ⟨_, H, he1⟩ := H
                  have he := (hout1 _ he1).symm
                  subst he
                  replace H := Option.some.inj H
                  subst H
                  exact gr Try.func17 ⟨rfl, hI.pn⟩
                · refine ge hc2728 (go_skip (go_inBlock (rp 2 ?_)))
                  exact hin3 _ (Option.some.inj H).symm _ _ ⟨_, A2721, c2722, b2723, A2724, c2725, b2726, b2727, at_, hI.pick [6, 0, 1, 2, 3, 4, 5, 7] (by decide) rfl⟩
              · refine ge hc2629 ?_
                refine go_exit rfl ?_
                refine go_inBlock (rp 2 ?_)
                replace H := out_some H
                obtain ⟨_, H, he3⟩ := H
                have he := (hout3 _ he3).symm
                subst he
                exact hin2 _ (Option.some.inj H).symm _ _ ⟨_, A2616, c2617, b2619, A2621, c2622, b2624, b2626, at_, hI.pick [0, 1, 2, 3, 4, 5, 6] (by decide) rfl⟩
          · replace H := cond_some H
            rcases H with ⟨hc2729, H⟩ | ⟨hc2729, H⟩
            · refine dx [.p, .p, .c true, .p, .p, .p, .p, .p, .p, .p, .p] gO _ (bZ (bndEq hc2729)) hI ?_
              clear hI
              intro _ hI
              exact hJ2340 true _ _ ⟨_, at_, hI.pick [0, 1, 2, 3, 4, 5, 6, 9, 8] (by decide) rfl⟩ H
            · replace H := must_some H
              obtain ⟨g2730, H⟩ := H
              replace H := bind_some H
              obtain ⟨y2735, hy2736, H⟩ := H
              refine go_held (fun w => Inv M w [.blk b2 25 [vS A0z0 a0.Keys.length c0z0, vS (some ⟨b2304, q2305, none⟩) a0.Txns.length c0z1], .blk b217 136 [vS A1911 l1910.length c1912, .map (some b1914), vS A1916 l1915.length c1917, .map (some b1919), .map (some b1921)], .row tStr 9 A1911 l1910.length c1912 l1910, mapA (fun x : ByteArray => .string x) (fun x : Int => vI x) b1914 m1913, .row (tInt .i64) 3 A1916 l1915.length c1917 l1915, mapA (fun x : IndexFact => .agg #[.string x.key, vI x.arg]) (fun _ : Unit => .agg #[]) b1919 m1918, mapO (fun x : ByteArray => .string x) (tSlice 3 (tInt .i64)) b1921 m1920, .blk b2310 41 [vI ((idx a0.Txns x1922).Proc), vI ((idx a0.Txns x1922).Status), vI ((idx a0.Txns x1922).From), vI ((idx a0.Txns x1922).To), vS A2306 (((idx a0.Txns x1922).Ops).length) c2307], .row (kCallL M.blk) 89 A2318 y2316.1.Calls.length c2319 y2316.1.Calls, .blk b2320 84 [vI y2316.1.Proc, vI y2316.1.Kind, vS A2318 y2316.1.Calls.length c2319]]) (by kernel_rfl) ?_
              replace hI := hI.drew'
              refine hx (n := 4) [(0, .p), (1, .p), (2, .c false), (3, .p), (4, .l 0 1), (5, .p), (7, .l 1 0)] (fun _ hS => (gB (hS.grp 0 rfl) (hS.grp 7 rfl))) hI _ (bZ (bndEq hc2729)) ?_
              refine ho (n := 3) 6 rfl (e_slice_ro kTxn _ 23 41 _ _ _ _ (some ⟨b2304, q2305, none⟩) c0z1 a0.Txns .i64 .i64 (0 : Int) x1922 rfl (by kernel_rfl) (by kernel_rfl) (by kernel_rfl) rfl rfl rfl hr0z1 hl0z1 g2730 ?_)
              intro A2731 c2732 hr2733 hl2734
              refine ⟨hI, ?_⟩
              refine ho (n := 2) 8 rfl (ec (enter43 _) (index_placed_calls A2731 c2732 (subl a0.Txns (0 : Int) x1922) (idx a0.Txns x1922) A2306 c2307 (memOf _) _ (Inv.start _) (hI.rd hr2733) hl2734 (hI.rd hr2308) hl2309 _ hy2736) ?_)
              rintro _ _ ⟨rfl, hI'⟩
              replace hI := hI.call0 hI'
              clear hI'
              refine ⟨_, rfl, ?_⟩
              refine ⟨hI, ?_⟩
              refine hg (n := 0) [(9, .p), (10, .p)] (fun _ hS => gO) hI (hd ?_)
              exact hJ2340 (!y2735) _ _ ⟨_, at_, hI.pick [0, 1, 2, 3, 4, 5, 6, 9, 8] (by decide) rfl⟩ H
        · refine ge hc1924 ?_
          refine go_exit rfl ?_
          refine go_seq (rp 1 ?_)
          replace H := out_some H
          obtain ⟨_, H, he2⟩ := H
          have he := (hout2 _ he2).symm
          subst he
          replace H := out_some H
          obtain ⟨_, H, he1⟩ := H
          have he := (hout1 _ he1).symm
          subst he
          replace H := Option.some.inj H
          subst H
          exact gr Try.func17 ⟨rfl, hI.pn⟩
  · refine r_in ?_
    replace H := cond_some H
    rcases H with ⟨hc2737, H⟩ | ⟨hc2737, H⟩
    · refine bx 0 [.p, .l 0 0, .p, .p, .c true, .p, .p, .p, .p, .p] (gA (hI.grp 0 rfl)) _ (bZ (bndEq hc2737)) (ro ?_)
      exact hJ8 true _ _ ⟨_, at_, hI⟩ H
    · refine bx 0 [.p, .l 0 0, .p, .p, .c false, .p, .l 0 1, .p, .p, .p] (gA (hI.grp 0 rfl)) _ (bZ (bndEq hc2737)) (ro ?_)
      exact hJ8 (decide ((a0.Txns.length : Int) > 32)) _ _ ⟨_, at_, hI⟩ H
theorem enter106 (a : Array Value) : Sem.pureRun Try.prog (callFunc 106 a) = some (.enter 106 a) := by kernel_rfl
theorem slices_Clone_int64zcalls (A0z : Option Addr) (c0z : Nat) (a0 : List Int) (M : Mem) (w : World) (hI : Inv M w []) (hr0z : rdS (tInt .i64) M.blk A0z a0) (hl0z : a0.length ≤ c0z) (r : List Int) (H : slices_Clone_int64 a0 = some r) :
    Calls Try.prog 106 #[.slice A0z a0.length c0z] w fun e w' => ∃ (A : Option Addr) (c : Nat), e = .returned (.slice A r.length c) ∧ Inv M w' [.row (tInt .i64) 2 A r.length c r] := by
  refine calls_go (updL (fun _ => undef) [(0, .slice A0z a0.length c0z)]) Try.func106 rfl (by kernel_rfl) ?_
  intro cs
  unfold slices_Clone_int64 at H
  replace H := must_some H
  obtain ⟨g, H⟩ := H
  replace H := Option.some.inj H
  subst H
  repeat refine go_seq ?_
  refine r_in ?_
  refine o_batch 0 [] [.p] [(2, .slice none 0 0)] [] trivial trivial (by kernel_rfl) (by kernel_rfl) (by kernel_rfl) ?_
  refine r_out (by kernel_rfl) ?_
  cases A0z with
  | none =>
    have hn : a0 = [] := by
      rcases hr0z with h | ⟨b, o, h, _⟩
      · exact h
      · cases h
    subst hn
    repeat refine go_seq ?_
    refine r_in ?_
    refine o_batch 0 [] [.p, .p] [(3, .slice none 0 c0z), (4, .bool true)] [] trivial trivial (by kernel_rfl) (by kernel_rfl) (by kernel_rfl) ?_
    refine r_out (by kernel_rfl) ?_
    refine go_then (by kernel_rfl) ?_
    repeat refine go_seq ?_
    refine r_in ?_
    refine o_batch 0 [] [.p] [(2, .slice none 0 0)] [] trivial trivial (by kernel_rfl) (by kernel_rfl) (by kernel_rfl) ?_
    refine r_out (by kernel_rfl) ?_
    exact go_return (.slice none 0 0) Try.func106 (by kernel_rfl) ⟨none, 0, rfl, hI.nilrow (tInt .i64) 2⟩
  | some a =>
    repeat refine go_seq ?_
    refine r_in ?_
    refine o_batch 0 [] [.p, .p] [(3, .slice (some a) a0.length c0z), (4, .bool false)] [] trivial trivial (by kernel_rfl) (by kernel_rfl) (by kernel_rfl) ?_
    refine r_out (by kernel_rfl) ?_
    refine go_else (by kernel_rfl) ?_
    refine go_skip ?_
    repeat refine go_seq ?_
    refine r_in ?_
    refine o_eff 0 _ rfl (by kernel_rfl) ?_
    refine e_empty (α := Int) (tInt .i64) 35 2 _ rfl rfl rfl hI ?_
    clear hI
    intro b _ hI
    refine o_batch 1 [] [.p] [(6, .slice (some a) a0.length c0z)] [] trivial trivial (by kernel_rfl) (by kernel_rfl) (by kernel_rfl) ?_
    refine o_eff 2 _ rfl (by kernel_rfl) ?_
    refine e_append_rd (kt := (tInt .i64)) 35 0 2 _ _ _ _ (some ⟨b, 0, none⟩) (some a) 0 0 ([] : List Int) a0 c0z 0 [] [] rfl (by kernel_rfl) (by kernel_rfl) rfl rfl rfl rfl rfl (by kernel_rfl) hI (by decide) rfl (hI.rd hr0z) ⟨(show ((0 + a0.length) + (0 + a0.length) / 4 + 192) * 8 ≤ 281474976710656 by omega), by have : 0 + a0.length ≤ (0 + a0.length) * 8 := Nat.le_mul_of_pos_right _ (by decide); omega⟩ ?_
    clear hI
    intro A c _ hI
    refine o_batch 3 [] [.p] [(2, .slice A a0.length c)] [] trivial trivial (by kernel_rfl) (by kernel_rfl) (by kernel_rfl) ?_
    refine r_out (by kernel_rfl) ?_
    exact go_return (.slice A a0.length c) Try.func106 (by kernel_rfl) ⟨A, c, rfl, hI⟩
theorem enter83 (a : Array Value) : Sem.pureRun Try.prog (callFunc 83 a) = some (.enter 83 a) := by kernel_rfl
theorem state_of_calls (a0 : Int) (M : Mem) (w : World) (hI : Inv M w []) (r : Int) (H : state_of a0 = some r) :
    Calls Try.prog 83 #[vI a0] w fun e w' => e = .returned (ifaceV r) ∧ Inv M w' [] := by
  refine cg Try.func83 ?_
  intro cs
  unfold state_of at H
  refine go_seq (rp 1 (go_seq (go_seq (rp 1 (go_block (go_seq (rp 2 ?_)))))))
  replace H := cond_some H
  rcases H with ⟨hc9, H⟩ | ⟨hc9, H⟩
  · refine gt hc9 (go_seq (rp 3 ?_))
    replace H := Option.some.inj H
    subst H
    exact gr Try.func83 ⟨rfl, hI⟩
  · refine ge hc9 (go_seq (rp 2 ?_))
    replace H := cond_some H
    rcases H with ⟨hc10, H⟩ | ⟨hc10, H⟩
    · refine gt hc10 (go_seq (rp 3 ?_))
      replace H := Option.some.inj H
      subst H
      exact gr Try.func83 ⟨rfl, hI⟩
    · refine ge hc10 (go_seq (rp 2 ?_))
      replace H := cond_some H
      rcases H with ⟨hc11, H⟩ | ⟨hc11, H⟩
      · refine gt hc11 (go_seq (rp 3 ?_))
        replace H := Option.some.inj H
        subst H
        exact gr Try.func83 ⟨rfl, hI⟩
      · refine ge hc11 (go_seq (rp 2 ?_))
        replace H := cond_some H
        rcases H with ⟨hc12, H⟩ | ⟨hc12, H⟩
        · refine gt hc12 (go_seq (rp 3 ?_))
          replace H := Option.some.inj H
          subst H
          exact gr Try.func83 ⟨rfl, hI⟩
        · refine ge hc12 (go_skip (go_inBlock (go_seq (rp 1 ?_))))
          replace H := Option.some.inj H
          subst H
          exact gr Try.func83 ⟨rfl, hI⟩
theorem state_register_sound_calls (a0 : Unit) (A1z : Option Addr) (c1z : Nat) (a1 : List Int) (M : Mem) (w : World) (hI : Inv M w []) (hr1z : rdS (tInt .i64) M.blk A1z a1) (hl1z : a1.length ≤ c1z) (r : Bool) (H : state_register_sound a0 a1 = some r) :
    Calls Try.prog 147 #[.agg #[], vS A1z a1.length c1z] w fun e w' => e = .returned (vB r) ∧ Inv M w' [] := by
  refine cg Try.func147 ?_
  intro cs
  unfold state_register_sound at H
  refine go_seq (r_in (oe 0 rfl ?_))
  refine e_box 171 _ (.agg #[]) [] rfl (by kernel_rfl) rfl hI ?_
  clear hI
  intro b2 _ hI
  refine bp 1 1 (ro (go_seq (rp 4 ?_)))
  replace H := Option.some.inj H
  subst H
  exact gr Try.func147 ⟨rfl, hI.pn⟩
theorem state_list_sound_calls (a0 : Unit) (A1z : Option Addr) (c1z : Nat) (a1 : List Int) (M : Mem) (w : World) (hI : Inv M w []) (hr1z : rdS (tInt .i64) M.blk A1z a1) (hl1z : a1.length ≤ c1z) (r : Bool) (H : state_list_sound a0 a1 = some r) :
    Calls Try.prog 151 #[.agg #[], vS A1z a1.length c1z] w fun e w' => e = .returned (vB r) ∧ Inv M w' [] := by
  refine cg Try.func151 ?_
  intro cs
  unfold state_list_sound at H
  refine go_seq (r_in (oe 0 rfl ?_))
  refine e_box 172 _ (.agg #[]) [] rfl (by kernel_rfl) rfl hI ?_
  clear hI
  intro b2 _ hI
  refine bp 1 1 (ro (go_seq (rp 4 ?_)))
  replace H := Option.some.inj H
  subst H
  exact gr Try.func151 ⟨rfl, hI.pn⟩
theorem state_set_sound_calls (a0 : Unit) (A1z : Option Addr) (c1z : Nat) (a1 : List Int) (M : Mem) (w : World) (hI : Inv M w []) (hr1z : rdS (tInt .i64) M.blk A1z a1) (hl1z : a1.length ≤ c1z) (r : Bool) (H : state_set_sound a0 a1 = some r) :
    Calls Try.prog 155 #[.agg #[], vS A1z a1.length c1z] w fun e w' => e = .returned (vB r) ∧ Inv M w' [] := by
  refine cg Try.func155 ?_
  intro cs
  unfold state_set_sound at H
  refine go_seq (r_in (oe 0 rfl ?_))
  refine e_box 173 _ (.agg #[]) [] rfl (by kernel_rfl) rfl hI ?_
  clear hI
  intro b2 _ hI
  refine bp 1 1 (ro (go_seq (go_seq (rp 1 (go_block ?_)))))
  refine go_iter (state_set_sound.s1 a1) (fun x68 f w => ∃ (j : Nat → Value), f = updL j [(1, vS A1z a1.length c1z), (5, vI x68)] ∧ Inv M w []) H ⟨_, at_, hI.pn⟩ ?_
  clear H hI
  rintro x68 _ _ o1 H ⟨_, rfl, hI⟩ hin1 hout1
  refine go_seq (go_seq (rp 4 ?_))
  replace H := cond_some H
  rcases H with ⟨hc70, H⟩ | ⟨hc70, H⟩
  · refine gt hc70 (go_skip (go_seq (go_block (go_seq ?_))))
    replace H := must_some H
    obtain ⟨g85, H⟩ := H
    obtain ⟨b86, q87, rfl, _⟩ := rdS.fopen hr1z rfl g85
    replace H := must_some H
    obtain ⟨g88, H⟩ := H
    refine dx [.p, .p, .p, .x, .l 0 0, .p, .p, .x, .l 1 0, .p] (gB (hI.lies (rdS.flook hr1z rfl g85)) (hI.lies (rdS.flook hr1z rfl g88))) _ (bC g85 (bZ g88)) hI ?_
    clear hI
    intro _ hI
    replace H := cond_some H
    rcases H with ⟨hc89, H⟩ | ⟨hc89, H⟩
    · refine gt hc89 (go_seq (rp 1 ?_))
      replace H := out_some H
      obtain ⟨_, H, he1⟩ := H
      have he := (hout1 _ he1).symm
      subst he
      replace H := Option.some.inj H
      subst H
      exact gr Try.func155 ⟨rfl, hI⟩
    · refine ge hc89 (go_skip (go_inBlock (rp 3 ?_)))
      exact hin1 _ (Option.some.inj H).symm _ _ ⟨_, at_, hI⟩
  · refine ge hc70 ?_
    refine go_exit rfl ?_
    refine go_seq (rp 4 ?_)
    replace H := out_some H
    obtain ⟨_, H, he1⟩ := H
    have he := (hout1 _ he1).symm
    subst he
    replace H := Option.some.inj H
    subst H
    exact gr Try.func155 ⟨rfl, hI⟩
theorem state_counter_sound_calls (a0 : Unit) (A1z : Option Addr) (c1z : Nat) (a1 : List Int) (M : Mem) (w : World) (hI : Inv M w []) (hr1z : rdS (tInt .i64) M.blk A1z a1) (hl1z : a1.length ≤ c1z) (r : Bool) (H : state_counter_sound a0 a1 = some r) :
    Calls Try.prog 167 #[.agg #[], vS A1z a1.length c1z] w fun e w' => e = .returned (vB r) ∧ Inv M w' [] := by
  refine cg Try.func167 ?_
  intro cs
  unfold state_counter_sound at H
  refine go_seq (r_in (oe 0 rfl ?_))
  refine e_box 174 _ (.agg #[]) [] rfl (by kernel_rfl) rfl hI ?_
  clear hI
  intro b2 _ hI
  refine bp 1 1 (ro (go_seq (rp 4 ?_)))
  replace H := Option.some.inj H
  subst H
  exact gr Try.func167 ⟨rfl, hI.pn⟩
theorem enter84 (a : Array Value) : Sem.pureRun Try.prog (callFunc 84 a) = some (.enter 84 a) := by kernel_rfl
theorem state_Check_calls (a0 : Int) (A1z : Option Addr) (c1z : Nat) (a1 : List Int) (M : Mem) (w : World) (hI : Inv M w []) (hr1z : rdS (tInt .i64) M.blk A1z a1) (hl1z : a1.length ≤ c1z) (r : Int) (H : state_Check a0 a1 = some r) :
    Calls Try.prog 84 #[vI a0, vS A1z a1.length c1z] w fun e w' => e = .returned (vI r) ∧ Inv M w' [] := by
  refine cg Try.func84 ?_
  intro cs
  unfold state_Check at H
  refine go_seq (rp 1 (go_seq (r_in (bp 0 1 ?_))))
  replace H := bind_some H
  obtain ⟨y8, hy9, H⟩ := H
  refine oe 1 rfl ?_
  refine ec (enter83 _) (state_of_calls a0 (memOf _) _ (Inv.start _) _ hy9) ?_
  rintro _ _ ⟨rfl, hI'⟩
  replace hI := hI.call0 hI'
  clear hI'
  refine ⟨_, rfl, ?_⟩
  replace H := cond_some H
  rcases H with ⟨hc10, H⟩ | ⟨hc10, H⟩
  · refine o_is 7 (ifaceV y8) (.iface 171 (.agg #[])) (by kernel_rfl) (congrArg ifaceV (eq_of_beq hc10)) ?_
    refine bp 2 1 (ro (go_seq (go_block (go_seq (rp 3 ?_)))))
    refine go_else (by kernel_rfl) ?_
    refine go_seq (r_in (bp 0 2 ?_))
    replace H := bind_some H
    obtain ⟨y19, hy20, H⟩ := H
    refine oe 2 rfl ?_
    refine e_enter 147 #[.agg #[], vS A1z a1.length c1z] (by kernel_rfl) (state_register_sound_calls () A1z c1z a1 (memOf _) _ (Inv.start _) (hI.rd hr1z) hl1z _ hy20) ?_
    rintro _ _ ⟨rfl, hI'⟩
    replace hI := hI.call0 hI'
    clear hI'
    refine ⟨_, rfl, ?_⟩
    refine bp 3 2 (ro ?_)
    replace H := cond_some H
    rcases H with ⟨hc21, H⟩ | ⟨hc21, H⟩
    · refine gt hc21 (go_seq (rp 1 ?_))
      replace H := Option.some.inj H
      subst H
      exact gr Try.func84 ⟨rfl, hI⟩
    · refine ge hc21 (go_skip (go_inBlock (go_seq (rp 1 ?_))))
      replace H := Option.some.inj H
      subst H
      exact gr Try.func84 ⟨rfl, hI⟩
  · replace H := cond_some H
    rcases H with ⟨hc22, H⟩ | ⟨hc22, H⟩
    · refine o_is 7 (ifaceV y8) (.iface 172 (.agg #[])) (by kernel_rfl) (congrArg ifaceV (eq_of_beq hc22)) ?_
      refine bp 2 1 (ro (go_seq (go_block (go_seq (rp 3 ?_)))))
      refine go_else (by kernel_rfl) ?_
      refine go_seq (r_in (bp 0 2 ?_))
      replace H := bind_some H
      obtain ⟨y31, hy32, H⟩ := H
      refine oe 2 rfl ?_
      refine e_enter 151 #[.agg #[], vS A1z a1.length c1z] (by kernel_rfl) (state_list_sound_calls () A1z c1z a1 (memOf _) _ (Inv.start _) (hI.rd hr1z) hl1z _ hy32) ?_
      rintro _ _ ⟨rfl, hI'⟩
      replace hI := hI.call0 hI'
      clear hI'
      refine ⟨_, rfl, ?_⟩
      refine bp 3 2 (ro ?_)
      replace H := cond_some H
      rcases H with ⟨hc33, H⟩ | ⟨hc33, H⟩
      · refine gt hc33 (go_seq (rp 1 ?_))
        replace H := Option.some.inj H
        subst H
        exact gr Try.func84 ⟨rfl, hI⟩
      · refine ge hc33 (go_skip (go_inBlock (go_seq (rp 1 ?_))))
        replace H := Option.some.inj H
        subst H
        exact gr Try.func84 ⟨rfl, hI⟩
    · replace H := cond_some H
      rcases H with ⟨hc34, H⟩ | ⟨hc34, H⟩
      · refine o_is 7 (ifaceV y8) (.iface 173 (.agg #[])) (by kernel_rfl) (congrArg ifaceV (eq_of_beq hc34)) ?_
        refine bp 2 1 (ro (go_seq (go_block (go_seq (rp 3 ?_)))))
        refine go_else (by kernel_rfl) ?_
        refine go_seq (r_in (bp 0 2 ?_))
        replace H := bind_some H
        obtain ⟨y43, hy44, H⟩ := H
        refine oe 2 rfl ?_
        refine e_enter 155 #[.agg #[], vS A1z a1.length c1z] (by kernel_rfl) (state_set_sound_calls () A1z c1z a1 (memOf _) _ (Inv.start _) (hI.rd hr1z) hl1z _ hy44) ?_
        rintro _ _ ⟨rfl, hI'⟩
        replace hI := hI.call0 hI'
        clear hI'
        refine ⟨_, rfl, ?_⟩
        refine bp 3 2 (ro ?_)
        replace H := cond_some H
        rcases H with ⟨hc45, H⟩ | ⟨hc45, H⟩
        · refine gt hc45 (go_seq (rp 1 ?_))
          replace H := Option.some.inj H
          subst H
          exact gr Try.func84 ⟨rfl, hI⟩
        · refine ge hc45 (go_skip (go_inBlock (go_seq (rp 1 ?_))))
          replace H := Option.some.inj H
          subst H
          exact gr Try.func84 ⟨rfl, hI⟩
      · replace H := cond_some H
        rcases H with ⟨hc46, H⟩ | ⟨hc46, H⟩
        · refine o_is 7 (ifaceV y8) (.iface 174 (.agg #[])) (by kernel_rfl) (congrArg ifaceV (eq_of_beq hc46)) ?_
          refine bp 2 1 (ro (go_seq (go_block (go_seq (rp 3 ?_)))))
          refine go_else (by kernel_rfl) ?_
          refine go_seq (r_in (bp 0 2 ?_))
          replace H := bind_some H
          obtain ⟨y55, hy56, H⟩ := H
          refine oe 2 rfl ?_
          refine e_enter 167 #[.agg #[], vS A1z a1.length c1z] (by kernel_rfl) (state_counter_sound_calls () A1z c1z a1 (memOf _) _ (Inv.start _) (hI.rd hr1z) hl1z _ hy56) ?_
          rintro _ _ ⟨rfl, hI'⟩
          replace hI := hI.call0 hI'
          clear hI'
          refine ⟨_, rfl, ?_⟩
          refine bp 3 2 (ro ?_)
          replace H := cond_some H
          rcases H with ⟨hc57, H⟩ | ⟨hc57, H⟩
          · refine gt hc57 (go_seq (rp 1 ?_))
            replace H := Option.some.inj H
            subst H
            exact gr Try.func84 ⟨rfl, hI⟩
          · refine ge hc57 (go_skip (go_inBlock (go_seq (rp 1 ?_))))
            replace H := Option.some.inj H
            subst H
            exact gr Try.func84 ⟨rfl, hI⟩
        · replace H := cond_some H
          rcases H with ⟨hc58, H⟩ | ⟨hc58, H⟩
          · refine o_is 7 (ifaceV y8) (.nilIface) (by kernel_rfl) (congrArg ifaceV (eq_of_beq hc58)) ?_
            refine bp 2 1 (ro (go_seq (go_block (go_seq (rp 3 ?_)))))
            refine go_then (by kernel_rfl) ?_
            refine go_seq (rp 1 ?_)
            replace H := Option.some.inj H
            subst H
            exact gr Try.func84 ⟨rfl, hI⟩
          · cases H
theorem state_register_without_calls (a0 : Unit) (A1z : Option Addr) (c1z : Nat) (a1 : List Int) (A2z : Option Addr) (c2z : Nat) (a2 : List Int) (M : Mem) (w : World) (hI : Inv M w []) (hr1z : rdS (tInt .i64) M.blk A1z a1) (hl1z : a1.length ≤ c1z) (hr2z : rdS (tInt .i64) M.blk A2z a2) (hl2z : a2.length ≤ c2z) (r : List Int × Bool) (H : state_register_without a0 a1 a2 = some r) :
    Calls Try.prog 150 #[.agg #[], vS A1z a1.length c1z, vS A2z a2.length c2z] w fun e w' => ∃ (A18 : Option Addr), ∃ (c19 : Nat), e = .returned (.tuple #[vS A18 r.1.length c19, vB r.2]) ∧ Inv M w' [.row (tInt .i64) 2 A18 r.1.length c19 r.1] := by
  refine cg Try.func150 ?_
  intro cs
  unfold state_register_without at H
  refine go_seq (r_in (oe 0 rfl ?_))
  refine e_box 171 _ (.agg #[]) [] rfl (by kernel_rfl) rfl hI ?_
  clear hI
  intro b2 _ hI
  refine bp 1 2 (ro (go_seq ?_))
  replace H := cond_some H
  rcases H with ⟨hc10, H⟩ | ⟨hc10, H⟩
  · replace H := must_some H
    obtain ⟨g11, H⟩ := H
    obtain ⟨b12, q13, rfl, _⟩ := rdS.fopen hr1z rfl g11
    replace H := must_some H
    obtain ⟨g14, H⟩ := H
    obtain ⟨b15, q16, rfl, _⟩ := rdS.fopen hr2z rfl g14
    refine dx [.p, .p, .p, .c true, .p, .x, .l 0 0, .p, .p, .p, .p, .x, .l 1 0, .p, .p, .p, .p] (gB (hI.lies (rdS.flook hr1z rfl g11)) (hI.lies (rdS.flook hr2z rfl g14))) _ (bC (bndEq hc10) (bC g11 (bZ g14))) hI ?_
    clear hI
    intro _ hI
    replace H := Option.some.inj H
    subst H
    exact gr Try.func150 ⟨none, 0, rfl, (hI.nilrow (tInt .i64) 2).pick [1] (by decide) rfl⟩
  · refine dx [.p, .p, .p, .c false, .p, .p, .p, .p, .p, .p, .p, .p, .p, .p, .p, .p, .p] gO _ (bZ (bndEq hc10)) hI ?_
    clear hI
    intro _ hI
    replace H := Option.some.inj H
    subst H
    exact gr Try.func150 ⟨none, 0, rfl, (hI.nilrow (tInt .i64) 2).pick [1] (by decide) rfl⟩
theorem enter54 (a : Array Value) : Sem.pureRun Try.prog (callFunc 54 a) = some (.enter 54 a) := by kernel_rfl
theorem slices_Equal_int64zcalls (A0z : Option Addr) (c0z : Nat) (a0 : List Int) (A1z : Option Addr) (c1z : Nat) (a1 : List Int) (M : Mem) (w : World) (hI : Inv M w []) (hr0z : rdS (tInt .i64) M.blk A0z a0) (hl0z : a0.length ≤ c0z) (hr1z : rdS (tInt .i64) M.blk A1z a1) (hl1z : a1.length ≤ c1z) (r : Bool) (H : slices_Equal_int64 a0 a1 = some r) :
    Calls Try.prog 54 #[vS A0z a0.length c0z, vS A1z a1.length c1z] w fun e w' => e = .returned (vB r) ∧ Inv M w' [] := by
  refine cg Try.func54 ?_
  intro cs
  unfold slices_Equal_int64 at H
  refine go_seq (rp 1 (go_seq (go_seq (rp 5 ?_))))
  replace H := cond_some H
  rcases H with ⟨hc2, H⟩ | ⟨hc2, H⟩
  · refine gt hc2 (go_seq (rp 1 ?_))
    replace H := Option.some.inj H
    subst H
    exact gr Try.func54 ⟨rfl, hI⟩
  · refine ge hc2 (go_skip (go_seq (go_seq (rp 3 (go_block ?_)))))
    refine go_iter (slices_Equal_int64.s1 a0 a1) (fun x84 f w => ∃ (j : Nat → Value), f = updL j [(0, vS A0z a0.length c0z), (1, vS A1z a1.length c1z), (12, vI (a0.length : Int)), (13, vI x84)] ∧ Inv M w []) H ⟨_, at_, hI⟩ ?_
    clear H hI
    rintro x84 _ _ o1 H ⟨_, rfl, hI⟩ hin1 hout1
    refine go_seq (rp 1 (go_seq ?_))
    replace H := cond_some H
    rcases H with ⟨hc86, H⟩ | ⟨hc86, H⟩
    · refine gt hc86 (go_skip (go_seq (go_block (go_seq (rp 2 (go_seq ?_))))))
      replace H := must_some H
      obtain ⟨g107, H⟩ := H
      obtain ⟨b108, q109, rfl, _⟩ := rdS.fopen hr0z rfl g107
      replace H := must_some H
      obtain ⟨g110, H⟩ := H
      obtain ⟨b111, q112, rfl, _⟩ := rdS.fopen hr1z rfl g110
      refine dx [.p, .p, .x, .l 0 0, .p, .p, .x, .l 1 0, .p] (gB (hI.lies (rdS.flook hr0z rfl g107)) (hI.lies (rdS.flook hr1z rfl g110))) _ (bC g107 (bZ g110)) hI ?_
      clear hI
      intro _ hI
      replace H := cond_some H
      rcases H with ⟨hc113, H⟩ | ⟨hc113, H⟩
      · refine gt hc113 (go_seq (rp 1 ?_))
        replace H := out_some H
        obtain ⟨_, H, he1⟩ := H
        have he := (hout1 _ he1).symm
        subst he
        replace H := Option.some.inj H
        subst H
        exact gr Try.func54 ⟨rfl, hI⟩
      · refine ge hc113 (go_skip (go_inBlock (rp 2 ?_)))
        exact hin1 _ (Option.some.inj H).symm _ _ ⟨_, at_, hI⟩
    · refine ge hc86 ?_
      refine go_exit rfl ?_
      refine go_seq (rp 1 ?_)
      replace H := out_some H
      obtain ⟨_, H, he1⟩ := H
      have he := (hout1 _ he1).symm
      subst he
      replace H := Option.some.inj H
      subst H
      exact gr Try.func54 ⟨rfl, hI⟩
theorem state_list_without_calls (a0 : Unit) (A1z : Option Addr) (c1z : Nat) (a1 : List Int) (A2z : Option Addr) (c2z : Nat) (a2 : List Int) (M : Mem) (w : World) (hI : Inv M w []) (hr1z : rdS (tInt .i64) M.blk A1z a1) (hl1z : a1.length ≤ c1z) (hr2z : rdS (tInt .i64) M.blk A2z a2) (hl2z : a2.length ≤ c2z) (r : List Int × Bool) (H : state_list_without a0 a1 a2 = some r) :
    Calls Try.prog 154 #[.agg #[], vS A1z a1.length c1z, vS A2z a2.length c2z] w fun e w' => ∃ (A51 : Option Addr), ∃ (c52 : Nat), e = .returned (.tuple #[vS A51 r.1.length c52, vB r.2]) ∧ Inv M w' [.row (tInt .i64) 2 A51 r.1.length c52 r.1] := by
  refine cg Try.func154 ?_
  intro cs
  unfold state_list_without at H
  refine go_seq (r_in (oe 0 rfl ?_))
  refine e_box 172 _ (.agg #[]) [] rfl (by kernel_rfl) rfl hI ?_
  clear hI
  intro b2 _ hI
  refine bp 1 2 (ro (go_seq (rp 6 (go_seq ?_))))
  refine go_seq_join (o := r) (fun b21 f w => ∃ (j : Nat → Value), f = updL j [(1, vS A1z a1.length c1z), (8, vI (w64 ((a1.length : Int) - (a2.length : Int)))), (23, vB b21)] ∧ Inv M w []) (fun b21 => state_list_without.j1 a1 a2 b21) ?_ (fun hJ22 => ?_)
  · clear H hI
    rintro b21 _ _ ⟨_, rfl, hI⟩ H
    replace H := cond_some H
    rcases H with ⟨hc23, H⟩ | ⟨hc23, H⟩
    · refine gt hc23 (go_seq (rp 2 ?_))
      replace H := Option.some.inj H
      subst H
      exact gr Try.func154 ⟨none, 0, rfl, (hI.nilrow (tInt .i64) 2)⟩
    · refine ge hc23 (go_skip (go_seq (r_in (bp 0 2 ?_))))
      replace H := must_some H
      obtain ⟨g33, H⟩ := H
      refine oe 2 rfl ?_
      refine e_slice_ro (tInt .i64) _ 35 2 _ _ _ _ A1z c1z a1 .i64 .i64 (0 : Int) (w64 ((a1.length : Int) - (a2.length : Int))) rfl (by kernel_rfl) (by kernel_rfl) (by kernel_rfl) rfl rfl rfl hr1z hl1z g33 ?_
      intro A34 c35 hr36 hl37
      replace H := bind_some H
      obtain ⟨y38, hy39, H⟩ := H
      refine oe 3 rfl ?_
      refine ec (enter106 _) (slices_Clone_int64zcalls A34 c35 (subl a1 (0 : Int) (w64 ((a1.length : Int) - (a2.length : Int)))) (memOf _) _ (Inv.start _) (hI.rd hr36) hl37 _ hy39) ?_
      rintro _ _ ⟨A40, c41, rfl, hI'⟩
      replace hI := hI.call0 hI'
      clear hI'
      refine ⟨_, rfl, ?_⟩
      refine bp 4 2 (ro ?_)
      replace H := Option.some.inj H
      subst H
      exact gr Try.func154 ⟨A40, c41, rfl, hI⟩
  · refine r_in ?_
    replace H := cond_some H
    rcases H with ⟨hc42, H⟩ | ⟨hc42, H⟩
    · refine bx 0 [.p, .p, .c true, .p, .p, .p, .p, .p, .p, .p] gO _ (bZ (bndEq hc42)) (ro ?_)
      exact hJ22 true _ _ ⟨_, at_, hI.pn⟩ H
    · refine bx 0 [.p, .p, .c false, .p, .p] gO _ (bZ (bndEq hc42)) ?_
      replace H := must_some H
      obtain ⟨g43, H⟩ := H
      refine oe 5 rfl ?_
      refine e_slice_ro (tInt .i64) _ 35 2 _ _ _ _ A1z c1z a1 .i64 .i64 (w64 ((a1.length : Int) - (a2.length : Int))) (a1.length : Int) rfl (by kernel_rfl) (by kernel_rfl) (by kernel_rfl) rfl rfl rfl hr1z hl1z g43 ?_
      intro A44 c45 hr46 hl47
      refine bp 6 1 ?_
      replace H := bind_some H
      obtain ⟨y48, hy49, H⟩ := H
      refine oe 7 rfl ?_
      refine ec (enter54 _) (slices_Equal_int64zcalls A44 c45 (subl a1 (w64 ((a1.length : Int) - (a2.length : Int))) (a1.length : Int)) A2z c2z a2 (memOf _) _ (Inv.start _) (hI.rd hr46) hl47 (hI.rd hr2z) hl2z _ hy49) ?_
      rintro _ _ ⟨rfl, hI'⟩
      replace hI := hI.call0 hI'
      clear hI'
      refine ⟨_, rfl, ?_⟩
      refine bp 8 2 (ro ?_)
      exact hJ22 (!y48) _ _ ⟨_, at_, hI.pn⟩ H
theorem enter130 (a : Array Value) : Sem.pureRun Try.prog (callFunc 130 a) = some (.enter 130 a) := by kernel_rfl
theorem cmp_isNaN_int64zcalls (a0 : Int) (M : Mem) (w : World) (hI : Inv M w []) (r : Bool) (H : cmp_isNaN_int64 a0 = some r) :
    Calls Try.prog 130 #[vI a0] w fun e w' => e = .returned (vB r) ∧ Inv M w' [] := by
  refine cg Try.func130 ?_
  intro cs
  unfold cmp_isNaN_int64 at H
  refine go_seq (rp 1 (go_seq (rp 4 ?_)))
  replace H := Option.some.inj H
  subst H
  exact gr Try.func130 ⟨rfl, hI⟩
theorem enter120 (a : Array Value) : Sem.pureRun Try.prog (callFunc 120 a) = some (.enter 120 a) := by kernel_rfl
theorem cmp_Less_int64zcalls (a0 : Int) (a1 : Int) (M : Mem) (w : World) (hI : Inv M w []) (r : Bool) (H : cmp_Less_int64 a0 a1 = some r) :
    Calls Try.prog 120 #[vI a0, vI a1] w fun e w' => e = .returned (vB r) ∧ Inv M w' [] := by
  refine cg Try.func120 ?_
  intro cs
  unfold cmp_Less_int64 at H
  refine go_seq (rp 1 (go_seq (r_in (bp 0 1 ?_))))
  replace H := bind_some H
  obtain ⟨y7, hy8, H⟩ := H
  refine oe 1 rfl ?_
  refine ec (enter130 _) (cmp_isNaN_int64zcalls a0 (memOf _) _ (Inv.start _) _ hy8) ?_
  rintro _ _ ⟨rfl, hI'⟩
  replace hI := hI.call0 hI'
  clear hI'
  refine ⟨_, rfl, ?_⟩
  replace H := cond_some H
  rcases H with ⟨hc9, H⟩ | ⟨hc9, H⟩
  · refine bx 2 [.c true, .p] gO _ (bZ (bndEq hc9)) ?_
    replace H := bind_some H
    obtain ⟨y10, hy11, H⟩ := H
    refine oe 4 rfl ?_
    refine ec (enter130 _) (cmp_isNaN_int64zcalls a1 (memOf _) _ (Inv.start _) _ hy11) ?_
    rintro _ _ ⟨rfl, hI'⟩
    replace hI := hI.call0 hI'
    clear hI'
    refine ⟨_, rfl, ?_⟩
    replace H := cond_some H
    rcases H with ⟨hc12, H⟩ | ⟨hc12, H⟩
    · refine bx 5 [.p, .p, .c true, .p, .p, .p, .p, .p] gO _ (bZ (bndEq hc12)) (ro ?_)
      replace H := Option.some.inj H
      subst H
      exact gr Try.func120 ⟨rfl, hI⟩
    · refine bx 5 [.p, .p, .c false, .p, .p, .p, .p, .p] gO _ (bZ (bndEq hc12)) (ro ?_)
      replace H := Option.some.inj H
      subst H
      exact gr Try.func120 ⟨rfl, hI⟩
  · refine bx 2 [.c false, .p, .p, .p, .p, .p, .p, .p, .p, .p, .p] gO _ (bZ (bndEq hc9)) (ro ?_)
    replace H := Option.some.inj H
    subst H
    exact gr Try.func120 ⟨rfl, hI⟩
theorem enter162 (a : Array Value) : Sem.pureRun Try.prog (callFunc 162 a) = some (.enter 162 a) := by kernel_rfl
theorem slices_isNaN_int64zcalls (a0 : Int) (M : Mem) (w : World) (hI : Inv M w []) (r : Bool) (H : slices_isNaN_int64 a0 = some r) :
    Calls Try.prog 162 #[vI a0] w fun e w' => e = .returned (vB r) ∧ Inv M w' [] := by
  refine cg Try.func162 ?_
  intro cs
  unfold slices_isNaN_int64 at H
  refine go_seq (rp 1 (go_seq (rp 4 ?_)))
  replace H := Option.some.inj H
  subst H
  exact gr Try.func162 ⟨rfl, hI⟩
theorem enter159 (a : Array Value) : Sem.pureRun Try.prog (callFunc 159 a) = some (.enter 159 a) := by kernel_rfl
theorem slices_BinarySearch_int64zcalls (A0z : Option Addr) (c0z : Nat) (a0 : List Int) (a1 : Int) (M : Mem) (w : World) (hI : Inv M w []) (hr0z : rdS (tInt .i64) M.blk A0z a0) (hl0z : a0.length ≤ c0z) (r : Int × Bool) (H : slices_BinarySearch_int64 a0 a1 = some r) :
    Calls Try.prog 159 #[vS A0z a0.length c0z, vI a1] w fun e w' => e = .returned (.tuple #[vI r.1, vB r.2]) ∧ Inv M w' [] := by
  refine cg Try.func159 ?_
  intro cs
  unfold slices_BinarySearch_int64 at H
  refine go_seq (rp 2 (go_seq (rp 3 (go_seq (rp 3 (go_seq (go_block ?_)))))))
  refine go_iter (slices_BinarySearch_int64.s1 a0 a1) (fun (x115, x116) f w => ∃ (j : Nat → Value), f = updL j [(0, vS A0z a0.length c0z), (1, vI a1), (6, vI (a0.length : Int)), (7, vI x115), (8, vI x116)] ∧ Inv M w []) H ⟨_, at_, hI⟩ ?_
  clear H hI
  rintro ⟨x115, x116⟩ _ _ o1 H ⟨_, rfl, hI⟩ hin1 hout1
  refine go_seq (go_seq (rp 3 ?_))
  replace H := cond_some H
  rcases H with ⟨hc118, H⟩ | ⟨hc118, H⟩
  · refine gt hc118 (go_skip ?_)
    refine go_block_join (o := o1) (fun (x126, x127) f w => ∃ (j : Nat → Value), f = updL j [(0, vS A0z a0.length c0z), (1, vI a1), (6, vI (a0.length : Int)), (7, vI x126), (8, vI x127)] ∧ Inv M w []) (fun (x126, x127) => slices_BinarySearch_int64.j2 x126 x127) ?_ (fun hJ128 => ?_)
    · clear H hI
      rintro ⟨x126, x127⟩ _ _ ⟨_, rfl, hI⟩ H
      exact hin1 _ (Option.some.inj H).symm _ _ ⟨_, at_, hI⟩
    · refine go_seq (r_in ?_)
      replace H := must_some H
      obtain ⟨g130, H⟩ := H
      refine bx 0 [.p, .p, .p, .p, .x, .p, .p] gO _ (bZ g130) (ro (go_seq (r_in ?_)))
      replace H := must_some H
      obtain ⟨g136, H⟩ := H
      obtain ⟨b137, q138, rfl, _⟩ := rdS.fopen hr0z rfl g136
      refine bx 0 [.p, .p, .x, .l 0 0, .p] (gA (hI.lies (rdS.flook hr0z rfl g136))) _ (bZ g136) ?_
      replace H := bind_some H
      obtain ⟨y139, hy140, H⟩ := H
      refine oe 5 rfl ?_
      refine ec (enter120 _) (cmp_Less_int64zcalls (idx a0 (w64 (sShr .u64 (IntKind.wrap .u64 (w64 (x115 + x116))) (1 : Int)))) a1 (memOf _) _ (Inv.start _) _ hy140) ?_
      rintro _ _ ⟨rfl, hI'⟩
      replace hI := hI.call0 hI'
      clear hI'
      refine ⟨_, rfl, ?_⟩
      refine ro ?_
      replace H := cond_some H
      rcases H with ⟨hc141, H⟩ | ⟨hc141, H⟩
      · refine gt hc141 (rp 3 (go_inBlock ?_))
        exact hJ128 (w64 ((w64 (sShr .u64 (IntKind.wrap .u64 (w64 (x115 + x116))) (1 : Int))) + 1), x116) _ _ ⟨_, at_, hI⟩ H
      · refine ge hc141 (rp 2 (go_inBlock ?_))
        exact hJ128 (x115, w64 (sShr .u64 (IntKind.wrap .u64 (w64 (x115 + x116))) (1 : Int))) _ _ ⟨_, at_, hI⟩ H
  · refine ge hc118 ?_
    refine go_exit rfl ?_
    refine go_seq (r_in ?_)
    replace H := cond_some H
    rcases H with ⟨hc152, H⟩ | ⟨hc152, H⟩
    · replace H := must_some H
      obtain ⟨g153, H⟩ := H
      obtain ⟨b154, q155, rfl, _⟩ := rdS.fopen hr0z rfl g153
      replace H := cond_some H
      rcases H with ⟨hc156, H⟩ | ⟨hc156, H⟩
      · refine bx 0 [.p, .p, .p, .p, .c true, .p, .p, .x, .l 0 0, .p, .p, .c true, .p, .p, .p, .p, .p, .p, .p, .p, .p, .p, .p, .p, .p] (gA (hI.lies (rdS.flook hr0z rfl g153))) _ (bC (bndEq hc152) (bC g153 (bZ (bndEq hc156)))) (ro ?_)
        replace H := out_some H
        obtain ⟨_, H, he1⟩ := H
        have he := (hout1 _ he1).symm
        subst he
        replace H := Option.some.inj H
        subst H
        exact gr Try.func159 ⟨rfl, hI⟩
      · refine bx 0 [.p, .p, .p, .p, .c true, .p, .p, .x, .l 0 0, .p, .p, .c false, .p, .p, .x, .l 0 0] (gA (hI.lies (rdS.flook hr0z rfl g153))) _ (bC (bndEq hc152) (bC g153 (bC (bndEq hc156) (bZ g153)))) ?_
        replace H := bind_some H
        obtain ⟨y157, hy158, H⟩ := H
        refine oe 16 rfl ?_
        refine ec (enter162 _) (slices_isNaN_int64zcalls (idx a0 x115) (memOf _) _ (Inv.start _) _ hy158) ?_
        rintro _ _ ⟨rfl, hI'⟩
        replace hI := hI.call0 hI'
        clear hI'
        refine ⟨_, rfl, ?_⟩
        replace H := cond_some H
        rcases H with ⟨hc159, H⟩ | ⟨hc159, H⟩
        · refine bx 17 [.c true, .p] gO _ (bZ (bndEq hc159)) ?_
          replace H := bind_some H
          obtain ⟨y160, hy161, H⟩ := H
          refine oe 19 rfl ?_
          refine ec (enter162 _) (slices_isNaN_int64zcalls a1 (memOf _) _ (Inv.start _) _ hy161) ?_
          rintro _ _ ⟨rfl, hI'⟩
          replace hI := hI.call0 hI'
          clear hI'
          refine ⟨_, rfl, ?_⟩
          refine bp 20 5 (ro ?_)
          replace H := out_some H
          obtain ⟨_, H, he1⟩ := H
          have he := (hout1 _ he1).symm
          subst he
          replace H := Option.some.inj H
          subst H
          exact gr Try.func159 ⟨rfl, hI⟩
        · refine bx 17 [.c false, .p, .p, .p, .p, .p, .p, .p] gO _ (bZ (bndEq hc159)) (ro ?_)
          replace H := out_some H
          obtain ⟨_, H, he1⟩ := H
          have he := (hout1 _ he1).symm
          subst he
          replace H := Option.some.inj H
          subst H
          exact gr Try.func159 ⟨rfl, hI⟩
    · refine bx 0 [.p, .p, .p, .p, .c false, .p, .p, .p, .p, .p, .p, .p, .p, .p, .p, .p, .p, .p, .p, .p, .p, .p, .p, .p, .p] gO _ (bZ (bndEq hc152)) (ro ?_)
      replace H := out_some H
      obtain ⟨_, H, he1⟩ := H
      have he := (hout1 _ he1).symm
      subst he
      replace H := Option.some.inj H
      subst H
      exact gr Try.func159 ⟨rfl, hI⟩
theorem enter161 (a : Array Value) : Sem.pureRun Try.prog (callFunc 161 a) = some (.enter 161 a) := by kernel_rfl
theorem slices_Delete_int64zcalls (A0z : Option Addr) (c0z : Nat) (a0 : List Int) (a1 a2 : Int) (M : Mem) (w : World) (hI : Inv M w [.row (tInt .i64) 2 A0z a0.length c0z a0]) (r : List Int) (H : slices_Delete_int64 a0 a1 a2 = some r) :
    Calls Try.prog 161 #[.slice A0z a0.length c0z, .int .i64 a1, .int .i64 a2] w fun e w' => ∃ (A : Option Addr) (c : Nat), e = .returned (.slice A r.length c) ∧ Inv M w' [.row (tInt .i64) 2 A r.length c r] := by
  refine calls_go (updL (fun _ => undef) [(0, .slice A0z a0.length c0z), (1, .int .i64 a1), (2, .int .i64 a2)]) Try.func161 rfl (by kernel_rfl) ?_
  intro cs
  unfold slices_Delete_int64 at H
  replace H := must_some H
  obtain ⟨⟨g0, g1, g2⟩, H⟩ := H
  replace H := Option.some.inj H
  subst H
  have hle := hI.rowle 0 rfl
  refine go_seq ?_
  refine r_in ?_
  refine o_batch 0 [] [.p] [(6, .slice none 0 0)] [] trivial trivial (by kernel_rfl) (by kernel_rfl) (by kernel_rfl) ?_
  refine r_out (by kernel_rfl) ?_
  refine go_seq ?_
  refine r_in ?_
  refine o_batch 0 [] [.p, .p, .p, .p, .p] [(8, .slice A0z a0.length c0z), (9, .int .i64 a1), (10, .int .i64 a2), (11, .slice A0z a0.length c0z), (12, .int .i64 (a0.length : Int))] [] trivial trivial (by kernel_rfl) (by kernel_rfl) (by kernel_rfl) ?_
  refine o_eff 5 _ rfl (by kernel_rfl) ?_
  refine e_slice3 35 2 _ _ _ _ _ 1 A0z a0.length c0z .i64 .i64 .i64 a1 a2 (a0.length : Int) rfl (by kernel_rfl) (by kernel_rfl) (by kernel_rfl) (by kernel_rfl) rfl rfl rfl ⟨g0, g1, g2, by omega⟩ ?_
  refine r_out (by kernel_rfl) ?_
  repeat refine go_seq ?_
  refine r_in ?_
  refine o_batch 0 [] [.p, .p, .p] [(14, .int .i64 a1), (15, .int .i64 a2), (16, .bool (a1 == a2))] [] trivial trivial (by kernel_rfl) (by kernel_rfl) (by kernel_rfl) ?_
  refine r_out (by kernel_rfl) ?_
  rcases Bool.eq_false_or_eq_true (a1 == a2) with hc | hc
  · refine go_then' (t := (a1 == a2)) (by kernel_rfl) hc ?_
    repeat refine go_seq ?_
    refine r_in ?_
    refine o_batch 0 [] [.p, .p] [(17, .slice A0z a0.length c0z), (6, .slice A0z a0.length c0z)] [] trivial trivial (by kernel_rfl) (by kernel_rfl) (by kernel_rfl) ?_
    refine r_out (by kernel_rfl) ?_
    have he : a0.take a1.toNat ++ a0.drop a2.toNat = a0 := by rw [eq_of_beq hc, List.take_append_drop]
    rw [he]
    exact go_return (.slice A0z a0.length c0z) Try.func161 (by kernel_rfl) ⟨A0z, c0z, rfl, hI⟩
  · have hne : a1 ≠ a2 := by intro e; subst e; simp at hc
    refine go_else' (t := (a1 == a2)) (by kernel_rfl) hc ?_
    refine go_skip ?_
    repeat refine go_seq ?_
    refine r_in ?_
    refine o_batch 0 [] [.p, .p, .p] [(18, .slice A0z a0.length c0z), (19, .int .i64 (a0.length : Int)), (7, .int .i64 (a0.length : Int))] [] trivial trivial (by kernel_rfl) (by kernel_rfl) (by kernel_rfl) ?_
    refine r_out (by kernel_rfl) ?_
    obtain ⟨b, rfl⟩ := hI.rowAt 0 rfl (j := a1) ⟨g0, by omega⟩
    obtain ⟨bs, hI, hbl, hbt, _, hlc, hcm⟩ := hI.openrow 0 rfl
    have hsz : (tInt .i64).sz = 1 := rfl
    rw [hsz, Nat.mul_one] at hbl hbt
    repeat refine go_seq ?_
    have hll : (a0.length : Int).toNat = a0.length := Int.toNat_natCast _
    refine go_held (fun w => Inv M w []) (by kernel_rfl) ?_
    replace hI := hI.drew'
    refine held_batch (n := 2) [] [(0, .p), (1, .p), (2, .x), (3, .p), (4, .p), (5, .x)] [(20, .slice (some ⟨b, 0, none⟩) a0.length c0z), (21, .int .i64 a1), (22, .slice (some ⟨b, 0, none⟩) a1.toNat c0z), (23, .slice (some ⟨b, 0, none⟩) a0.length c0z), (24, .int .i64 a2), (25, sliced (some ⟨b, 0, none⟩) a2.toNat (a0.length : Int).toNat c0z 1)]
      [(a1, c0z + 1), (a2, (a0.length : Int).toNat + 1), ((a0.length : Int), c0z + 1)] [true, true, true, true, true, true, false, false] (by kernel_rfl) (fun w hS => trivial) (hI.pick [] (by decide) rfl) ⟨⟨g0, by omega⟩, ⟨by omega, by omega⟩, ⟨by omega, by omega⟩, trivial⟩ (by kernel_rfl) (by kernel_rfl) (by kernel_rfl) ?_
    have hen : ∀ x : Int, ((fun x : Int => ([.int .i64 x] : List Value)) x).length = 1 := fun _ => rfl
    have hbt' : bs.take (a0.length * 1) = a0.flatMap (fun x : Int => ([.int .i64 x] : List Value)) := by rw [Nat.mul_one]; exact hbt
    have hdc := fun zs => del_cells (zs := zs) (i := a1.toNat) (j := a2.toNat) hen rfl hbt' (by omega) (by omega) (by omega)
    have hpc := part_cells (j := a2.toNat) hen rfl hbt'
    have hsrc := Src.of_blk (sz := 1) (l := a2.toNat) (h := (a0.length : Int).toNat) (m := c0z) hI 0 rfl (by omega) (by omega) (by omega)
    refine held_one (n := 1) 6 _ rfl (by kernel_rfl) (by kernel_rfl) ?_
    refine e_append_in _ _ 35 2 _ 1 0 b a1.toNat c0z ((a0.length : Int).toNat - a2.toNat) _ bs _ rfl (by kernel_rfl) (by kernel_rfl) rfl rfl rfl hI rfl hsrc (by omega) (by simpa using hbl) ?_ ?_
    · rw [hll, hpc]
      exact flats_one (tInt .i64) _
    have hpl : ((bs.drop (a2.toNat * 1)).take (((a0.length : Int).toNat - a2.toNat) * 1)).length = (a0.length : Int).toNat - a2.toNat := by simp; omega
    clear hI
    intro _ hI
    refine ⟨hI.pick [] (by decide) rfl, ?_⟩
    refine held_batch (n := 0) [] [(7, .p)] [(0, .slice (some ⟨b, 0, none⟩) (a1.toNat + ((a0.length : Int).toNat - a2.toNat)) c0z)] [] [true, true, true, true, true, true, true, true] (by kernel_rfl) (fun w hS => trivial) (hI.pick [] (by decide) rfl) trivial (by kernel_rfl) (by kernel_rfl) (by kernel_rfl) ?_
    refine held_done (by kernel_rfl) ?_
    obtain ⟨q, hq⟩ : ∃ q, q = a1.toNat + ((a0.length : Int).toNat - a2.toNat) := ⟨_, rfl⟩
    repeat refine go_seq ?_
    refine r_in ?_
    refine o_batch 0 [] [.p, .p, .p, .p] [(27, .slice (some ⟨b, 0, none⟩) (a1.toNat + ((a0.length : Int).toNat - a2.toNat)) c0z), (28, .slice (some ⟨b, 0, none⟩) (a1.toNat + ((a0.length : Int).toNat - a2.toNat)) c0z), (29, .int .i64 ((a1.toNat + ((a0.length : Int).toNat - a2.toNat) : Nat) : Int)), (30, .int .i64 (a0.length : Int))] [] trivial trivial (by kernel_rfl) (by kernel_rfl) (by kernel_rfl) ?_
    refine o_eff 4 _ rfl (by kernel_rfl) ?_
    refine e_slice2 35 2 _ _ _ _ 1 (some ⟨b, 0, none⟩) (a1.toNat + ((a0.length : Int).toNat - a2.toNat)) c0z .i64 .i64 ((a1.toNat + ((a0.length : Int).toNat - a2.toNat) : Nat) : Int) (a0.length : Int) rfl (by kernel_rfl) (by kernel_rfl) (by kernel_rfl) rfl rfl rfl ⟨by omega, by omega, by omega⟩ ?_
    refine o_eff 5 _ rfl (by kernel_rfl) ?_
    refine e_clear _ 35 2 _ 1 _ 0 b ((a1.toNat + ((a0.length : Int).toNat - a2.toNat) : Nat) : Int).toNat (a0.length : Int).toNat c0z _ rfl (by kernel_rfl) rfl rfl rfl rfl rfl (by kernel_rfl) hI rfl (by omega) (by omega) ?_ ?_
    · rw [splice_len (by omega)]; omega
    clear hI
    intro _ vs hvs hI
    refine r_out (by kernel_rfl) ?_
    repeat refine go_seq ?_
    refine r_in ?_
    refine o_batch 0 [] [.p, .p] [(32, .slice (some ⟨b, 0, none⟩) (a1.toNat + ((a0.length : Int).toNat - a2.toNat)) c0z), (6, .slice (some ⟨b, 0, none⟩) (a1.toNat + ((a0.length : Int).toNat - a2.toNat)) c0z)] [] trivial trivial (by kernel_rfl) (by kernel_rfl) (by kernel_rfl) ?_
    refine r_out (by kernel_rfl) ?_
    have hrl : (a0.take a1.toNat ++ a0.drop a2.toNat).length = a1.toNat + ((a0.length : Int).toNat - a2.toNat) := by simp; omega
    refine go_return (.slice (some ⟨b, 0, none⟩) (a1.toNat + ((a0.length : Int).toNat - a2.toNat)) c0z) Try.func161 (by kernel_rfl) ⟨some ⟨b, 0, none⟩, c0z, by rw [hrl], ?_⟩
    refine hI.closerow (kt := tInt .i64) 0 (a0.take a1.toNat ++ a0.drop a2.toNat) rfl ?_ ?_ (by omega) hcm
    · rw [splice_len, splice_len, hbl, hsz, Nat.mul_one] <;> (try rw [splice_len]) <;> omega
    · rw [hrl, hsz]
      have := hdc vs
      simp only [hll, Int.toNat_natCast] at this ⊢
      exact this
theorem state_set_without_calls (a0 : Unit) (A1z : Option Addr) (c1z : Nat) (a1 : List Int) (A2z : Option Addr) (c2z : Nat) (a2 : List Int) (M : Mem) (w : World) (hI : Inv M w []) (hr1z : rdS (tInt .i64) M.blk A1z a1) (hl1z : a1.length ≤ c1z) (hr2z : rdS (tInt .i64) M.blk A2z a2) (hl2z : a2.length ≤ c2z) (r : List Int × Bool) (H : state_set_without a0 a1 a2 = some r) :
    Calls Try.prog 158 #[.agg #[], vS A1z a1.length c1z, vS A2z a2.length c2z] w fun e w' => ∃ (A265 : Option Addr), ∃ (c266 : Nat), e = .returned (.tuple #[vS A265 r.1.length c266, vB r.2]) ∧ Inv M w' [.row (tInt .i64) 2 A265 r.1.length c266 r.1] := by
  refine cg Try.func158 ?_
  intro cs
  unfold state_set_without at H
  refine go_seq (r_in (oe 0 rfl ?_))
  refine e_box 173 _ (.agg #[]) [] rfl (by kernel_rfl) rfl hI ?_
  clear hI
  intro b2 _ hI
  refine bp 1 2 (ro (go_seq (r_in (bp 0 1 ?_))))
  replace H := bind_some H
  obtain ⟨y7, hy8, H⟩ := H
  refine oe 1 rfl ?_
  refine ec (enter106 _) (slices_Clone_int64zcalls A1z c1z a1 (memOf _) _ (Inv.start _) (hI.rd hr1z) hl1z _ hy8) ?_
  rintro _ _ ⟨A9, c10, rfl, hI'⟩
  replace hI := hI.call0 hI'
  clear hI'
  refine ⟨_, rfl, ?_⟩
  refine bp 2 1 (ro (go_seq (go_seq (rp 3 (go_block ?_)))))
  refine go_iter (state_set_without.s1 a2) (fun (l207, x210) f w => ∃ (j : Nat → Value) (A208 : Option Addr) (c209 : Nat), f = updL j [(8, vS A208 l207.length c209), (15, vS A2z a2.length c2z), (16, vI (a2.length : Int)), (17, vI x210)] ∧ Inv M w [.row (tInt .i64) 2 A208 l207.length c209 l207]) H ⟨_, A9, c10, at_, hI.pick [1] (by decide) rfl⟩ ?_
  clear H hI
  rintro ⟨l207, x210⟩ _ _ o1 H ⟨_, A208, c209, rfl, hI⟩ hin1 hout1
  refine go_seq (rp 1 (go_seq ?_))
  replace H := cond_some H
  rcases H with ⟨hc212, H⟩ | ⟨hc212, H⟩
  · refine gt hc212 (go_skip (go_seq (go_block (go_seq (r_in ?_)))))
    replace H := must_some H
    obtain ⟨g246, H⟩ := H
    obtain ⟨b247, q248, rfl, _⟩ := rdS.fopen hr2z rfl g246
    refine bx 0 [.x, .l 0 0, .p] (gA (hI.lies (rdS.flook hr2z rfl g246))) _ (bZ g246) (ro (go_seq (r_in (bp 0 2 ?_))))
    replace H := bind_some H
    obtain ⟨y251, hy252, H⟩ := H
    refine oe 2 rfl ?_
    refine ec (enter159 _) (slices_BinarySearch_int64zcalls A208 c209 l207 (idx a2 x210) (memOf _) _ (Inv.start _) (hI.row 0 rfl) (hI.rowle 0 rfl) _ hy252) ?_
    rintro _ _ ⟨rfl, hI'⟩
    replace hI := hI.call0 hI'
    clear hI'
    refine ⟨_, rfl, ?_⟩
    refine bp 3 5 (ro (go_seq (go_seq (rp 2 ?_))))
    replace H := cond_some H
    rcases H with ⟨hc254, H⟩ | ⟨hc254, H⟩
    · refine gt hc254 (go_seq (rp 2 ?_))
      replace H := out_some H
      obtain ⟨_, H, he1⟩ := H
      have he := (hout1 _ he1).symm
      subst he
      replace H := Option.some.inj H
      subst H
      exact gr Try.func158 ⟨none, 0, rfl, (hI.nilrow (tInt .i64) 2).pick [1] (by decide) rfl⟩
    · refine ge hc254 (go_skip (r_in (bp 0 4 ?_)))
      replace H := bind_some H
      obtain ⟨y260, hy261, H⟩ := H
      obtain ⟨M255, hJ256, hs257, hro258, hback259⟩ := hI.call (R := [.row (tInt .i64) 2 A208 l207.length c209 l207]) (L0 := []) [0] [] (by decide) rfl
      refine oe 4 rfl ?_
      refine ec (enter161 _) (slices_Delete_int64zcalls A208 c209 l207 y251.1 (w64 (y251.1 + 1)) M255 _ hJ256 _ hy261) ?_
      rintro _ _ ⟨A262, c263, rfl, hI'⟩
      replace hI := hback259 _ _ hI'
      clear hI'
      refine ⟨_, rfl, ?_⟩
      refine bp 5 1 (ro (go_inBlock (rp 2 ?_)))
      exact hin1 _ (Option.some.inj H).symm _ _ ⟨_, A262, c263, at_, hI⟩
  · refine ge hc212 ?_
    refine go_exit rfl ?_
    refine go_seq (rp 3 ?_)
    replace H := out_some H
    obtain ⟨_, H, he1⟩ := H
    have he := (hout1 _ he1).symm
    subst he
    replace H := Option.some.inj H
    subst H
    exact gr Try.func158 ⟨A208, c209, rfl, hI⟩
theorem state_counter_without_calls (a0 : Unit) (A1z : Option Addr) (c1z : Nat) (a1 : List Int) (A2z : Option Addr) (c2z : Nat) (a2 : List Int) (M : Mem) (w : World) (hI : Inv M w []) (hr1z : rdS (tInt .i64) M.blk A1z a1) (hl1z : a1.length ≤ c1z) (hr2z : rdS (tInt .i64) M.blk A2z a2) (hl2z : a2.length ≤ c2z) (r : List Int × Bool) (H : state_counter_without a0 a1 a2 = some r) :
    Calls Try.prog 170 #[.agg #[], vS A1z a1.length c1z, vS A2z a2.length c2z] w fun e w' => ∃ (A96 : Option Addr), ∃ (c97 : Nat), e = .returned (.tuple #[vS A96 r.1.length c97, vB r.2]) ∧ Inv M w' [.row (tInt .i64) 2 A96 r.1.length c97 r.1] := by
  refine cg Try.func170 ?_
  intro cs
  unfold state_counter_without at H
  refine go_seq (r_in (oe 0 rfl ?_))
  refine e_box 174 _ (.agg #[]) [] rfl (by kernel_rfl) rfl hI ?_
  clear hI
  intro b2 _ hI
  refine bp 1 2 (ro (go_seq (r_in ?_)))
  replace H := must_some H
  obtain ⟨g6, H⟩ := H
  obtain ⟨b7, q8, rfl, _⟩ := rdS.fopen hr1z rfl g6
  refine bx 0 [.p, .x, .l 0 0, .p] (gA (hI.lies (rdS.flook hr1z rfl g6))) _ (bZ g6) (ro (go_seq (go_seq (rp 3 (go_block ?_)))))
  refine go_iter (state_counter_without.s1 a2) (fun (x75, x76) f w => ∃ (j : Nat → Value), f = updL j [(8, vI x75), (14, vS A2z a2.length c2z), (15, vI (a2.length : Int)), (16, vI x76)] ∧ Inv M w []) H ⟨_, at_, hI.pn⟩ ?_
  clear H hI
  rintro ⟨x75, x76⟩ _ _ o1 H ⟨_, rfl, hI⟩ hin1 hout1
  refine go_seq (rp 1 (go_seq ?_))
  replace H := cond_some H
  rcases H with ⟨hc78, H⟩ | ⟨hc78, H⟩
  · refine gt hc78 (go_skip (go_seq (go_block (go_seq (r_in ?_)))))
    replace H := must_some H
    obtain ⟨g88, H⟩ := H
    obtain ⟨b89, q90, rfl, _⟩ := rdS.fopen hr2z rfl g88
    refine bx 0 [.x, .l 0 0, .p] (gA (hI.lies (rdS.flook hr2z rfl g88))) _ (bZ g88) (ro (rp 4 (go_inBlock (rp 2 ?_))))
    exact hin1 _ (Option.some.inj H).symm _ _ ⟨_, at_, hI⟩
  · refine ge hc78 ?_
    refine go_exit rfl ?_
    refine go_seq (r_in (bp 0 1 (oe 1 rfl ?_)))
    refine e_partsS 35 2 1 _ _ _ #[vI x75] [vI x75] rfl rfl rfl rfl (by kernel_rfl) (by kernel_rfl) (by kernel_rfl) (by kernel_rfl) hI ?_
    clear hI
    intro b93 _ hs94 hI
    replace hI := hI.asrow (k := (tInt .i64)) (xs := ([x75] : List Int)) (cs := [vI x75]) (R := []) (L' := []) 1 0 [] [] (by decide) rfl (mks_cons (mk_flat (k := (tInt .i64)) x75 [vI x75] rfl) mks_nil) rfl rfl (by kernel_rfl)
    refine bp 2 2 (ro ?_)
    refine go_is 6 (vS (some ⟨b93, 0, none⟩) 1 1) (vS (some ⟨b93, 0, none⟩) (([x75] : List Int).length) 1) (by kernel_rfl) (by first | rfl | simp only [List.length_set, List.length_replicate, List.length_nil]) ?_
    replace hI := hI.renum 0 rfl
    replace H := out_some H
    obtain ⟨_, H, he1⟩ := H
    have he := (hout1 _ he1).symm
    subst he
    replace H := Option.some.inj H
    subst H
    exact gr Try.func170 ⟨(some ⟨b93, 0, none⟩), 1, rfl, hI⟩
theorem enter107 (a : Array Value) : Sem.pureRun Try.prog (callFunc 107 a) = some (.enter 107 a) := by kernel_rfl
theorem state_Before_calls (a0 : Int) (A1z : Option Addr) (c1z : Nat) (a1 : List Int) (A2z : Option Addr) (c2z : Nat) (a2 : List Int) (M : Mem) (w : World) (hI : Inv M w []) (hr1z : rdS (tInt .i64) M.blk A1z a1) (hl1z : a1.length ≤ c1z) (hr2z : rdS (tInt .i64) M.blk A2z a2) (hl2z : a2.length ≤ c2z) (r : List Int × Bool) (H : state_Before a0 a1 a2 = some r) :
    Calls Try.prog 107 #[vI a0, vS A1z a1.length c1z, vS A2z a2.length c2z] w fun e w' => ∃ (A62 : Option Addr), ∃ (c63 : Nat), e = .returned (.tuple #[vS A62 r.1.length c63, vB r.2]) ∧ Inv M w' [.row (tInt .i64) 2 A62 r.1.length c63 r.1] := by
  refine cg Try.func107 ?_
  intro cs
  unfold state_Before at H
  refine go_seq (rp 2 (go_seq ?_))
  refine go_seq_join (o := r) (fun b9 f w => ∃ (j : Nat → Value), f = updL j [(0, vI a0), (1, vS A1z a1.length c1z), (2, vS A2z a2.length c2z), (16, vB b9)] ∧ Inv M w []) (fun b9 => state_Before.j1 a0 a1 a2 b9) ?_ (fun hJ10 => ?_)
  · clear H hI
    rintro b9 _ _ ⟨_, rfl, hI⟩ H
    replace H := cond_some H
    rcases H with ⟨hc11, H⟩ | ⟨hc11, H⟩
    · refine gt hc11 (go_seq (rp 2 ?_))
      replace H := Option.some.inj H
      subst H
      exact gr Try.func107 ⟨none, 0, rfl, (hI.nilrow (tInt .i64) 2)⟩
    · refine ge hc11 (go_skip (go_seq (r_in (bp 0 1 ?_))))
      replace H := bind_some H
      obtain ⟨y35, hy36, H⟩ := H
      refine oe 1 rfl ?_
      refine ec (enter83 _) (state_of_calls a0 (memOf _) _ (Inv.start _) _ hy36) ?_
      rintro _ _ ⟨rfl, hI'⟩
      replace hI := hI.call0 hI'
      clear hI'
      refine ⟨_, rfl, ?_⟩
      replace H := cond_some H
      rcases H with ⟨hc37, H⟩ | ⟨hc37, H⟩
      · refine o_is 18 (ifaceV y35) (.iface 171 (.agg #[])) (by kernel_rfl) (congrArg ifaceV (eq_of_beq hc37)) ?_
        refine bp 2 2 ?_
        replace H := bind_some H
        obtain ⟨y38, hy39, H⟩ := H
        refine oe 4 rfl ?_
        refine e_enter 150 #[.agg #[], vS A1z a1.length c1z, vS A2z a2.length c2z] (by kernel_rfl) (state_register_without_calls () A1z c1z a1 A2z c2z a2 (memOf _) _ (Inv.start _) (hI.rd hr1z) hl1z (hI.rd hr2z) hl2z _ hy39) ?_
        rintro _ _ ⟨A40, c41, rfl, hI'⟩
        replace hI := hI.call0 hI'
        clear hI'
        refine ⟨_, rfl, ?_⟩
        refine bp 5 4 (ro ?_)
        replace H := Option.some.inj H
        subst H
        exact gr Try.func107 ⟨A40, c41, rfl, hI⟩
      · replace H := cond_some H
        rcases H with ⟨hc42, H⟩ | ⟨hc42, H⟩
        · refine o_is 18 (ifaceV y35) (.iface 172 (.agg #[])) (by kernel_rfl) (congrArg ifaceV (eq_of_beq hc42)) ?_
          refine bp 2 2 ?_
          replace H := bind_some H
          obtain ⟨y43, hy44, H⟩ := H
          refine oe 4 rfl ?_
          refine e_enter 154 #[.agg #[], vS A1z a1.length c1z, vS A2z a2.length c2z] (by kernel_rfl) (state_list_without_calls () A1z c1z a1 A2z c2z a2 (memOf _) _ (Inv.start _) (hI.rd hr1z) hl1z (hI.rd hr2z) hl2z _ hy44) ?_
          rintro _ _ ⟨A45, c46, rfl, hI'⟩
          replace hI := hI.call0 hI'
          clear hI'
          refine ⟨_, rfl, ?_⟩
          refine bp 5 4 (ro ?_)
          replace H := Option.some.inj H
          subst H
          exact gr Try.func107 ⟨A45, c46, rfl, hI⟩
        · replace H := cond_some H
          rcases H with ⟨hc47, H⟩ | ⟨hc47, H⟩
          · refine o_is 18 (ifaceV y35) (.iface 173 (.agg #[])) (by kernel_rfl) (congrArg ifaceV (eq_of_beq hc47)) ?_
            refine bp 2 2 ?_
            replace H := bind_some H
            obtain ⟨y48, hy49, H⟩ := H
            refine oe 4 rfl ?_
            refine e_enter 158 #[.agg #[], vS A1z a1.length c1z, vS A2z a2.length c2z] (by kernel_rfl) (state_set_without_calls () A1z c1z a1 A2z c2z a2 (memOf _) _ (Inv.start _) (hI.rd hr1z) hl1z (hI.rd hr2z) hl2z _ hy49) ?_
            rintro _ _ ⟨A50, c51, rfl, hI'⟩
            replace hI := hI.call0 hI'
            clear hI'
            refine ⟨_, rfl, ?_⟩
            refine bp 5 4 (ro ?_)
            replace H := Option.some.inj H
            subst H
            exact gr Try.func107 ⟨A50, c51, rfl, hI⟩
          · replace H := cond_some H
            rcases H with ⟨hc52, H⟩ | ⟨hc52, H⟩
            · refine o_is 18 (ifaceV y35) (.iface 174 (.agg #[])) (by kernel_rfl) (congrArg ifaceV (eq_of_beq hc52)) ?_
              refine bp 2 2 ?_
              replace H := bind_some H
              obtain ⟨y53, hy54, H⟩ := H
              refine oe 4 rfl ?_
              refine e_enter 170 #[.agg #[], vS A1z a1.length c1z, vS A2z a2.length c2z] (by kernel_rfl) (state_counter_without_calls () A1z c1z a1 A2z c2z a2 (memOf _) _ (Inv.start _) (hI.rd hr1z) hl1z (hI.rd hr2z) hl2z _ hy54) ?_
              rintro _ _ ⟨A55, c56, rfl, hI'⟩
              replace hI := hI.call0 hI'
              clear hI'
              refine ⟨_, rfl, ?_⟩
              refine bp 5 4 (ro ?_)
              replace H := Option.some.inj H
              subst H
              exact gr Try.func107 ⟨A55, c56, rfl, hI⟩
            · replace H := cond_some H
              rcases H with ⟨hc57, H⟩ | ⟨hc57, H⟩
              · refine o_is 18 (ifaceV y35) (.nilIface) (by kernel_rfl) (congrArg ifaceV (eq_of_beq hc57)) ?_
                refine bp 2 2 ?_
                cases H
              · cases H
  · refine r_in (bp 0 2 ?_)
    replace H := bind_some H
    obtain ⟨y58, hy59, H⟩ := H
    refine oe 2 rfl ?_
    refine ec (enter84 _) (state_Check_calls a0 A1z c1z a1 (memOf _) _ (Inv.start _) (hI.rd hr1z) hl1z _ hy59) ?_
    rintro _ _ ⟨rfl, hI'⟩
    replace hI := hI.call0 hI'
    clear hI'
    refine ⟨_, rfl, ?_⟩
    replace H := cond_some H
    rcases H with ⟨hc60, H⟩ | ⟨hc60, H⟩
    · refine bx 3 [.p, .c true, .p, .p, .p, .p] gO _ (bZ (bndEq hc60)) (ro ?_)
      exact hJ10 true _ _ ⟨_, at_, hI⟩ H
    · refine bx 3 [.p, .c false, .p, .p, .p, .p] gO _ (bZ (bndEq hc60)) (ro ?_)
      exact hJ10 ((a2.length : Int) == 0) _ _ ⟨_, at_, hI⟩ H
end Go.Proofs.YtnlkggppokcmfaaT
