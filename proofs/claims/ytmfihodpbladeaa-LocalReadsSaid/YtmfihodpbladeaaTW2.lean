/- The walks, part 2: each call computes its plain function. -/
import Derived.Test.YtmfihodpbladeaaTW1
import Derived.Test.YtmfihodpbladeaaProg
namespace Go.Proofs.YtmfihodpbladeaaT
open Go Go.Proofs Go.Proofs.YtmfihodpbladeaaE
set_option linter.unusedVariables false
set_option linter.unusedSimpArgs false
set_option maxHeartbeats 0
set_option maxRecDepth 4096
/-! ### index_Check -/
theorem enter41 (a : Array Value) : Sem.pureRun Try.prog (callFunc 41 a) = some (.enter 41 a) := by kernel_rfl
theorem index_Check_calls (a0 : History) (A0z0 : Option Addr) (c0z0 : Nat) (A0z1 : Option Addr) (c0z1 : Nat) (M : Mem) (w : World) (hI : Inv M w []) (hr0z0 : rdS tStr M.blk A0z0 a0.Keys) (hl0z0 : a0.Keys.length ≤ c0z0) (hr0z1 : rdS kTxn M.blk A0z1 a0.Txns) (hl0z1 : a0.Txns.length ≤ c0z1) (r : Int) (H : index_Check a0 = some r) :
    Calls Try.prog 41 #[.agg #[vS A0z0 a0.Keys.length c0z0, vS A0z1 a0.Txns.length c0z1]] w fun e w' => e = .returned (vI r) ∧ Inv M w' [] := by
  refine cg Try.func41 ?_
  intro cs
  unfold index_Check at H
  refine go_seq (r_in (oe 0 rfl ?_))
  refine e_box 40 _ (.agg #[vS A0z0 a0.Keys.length c0z0, vS A0z1 a0.Txns.length c0z1]) [vS A0z0 a0.Keys.length c0z0, vS A0z1 a0.Txns.length c0z1] rfl (by kernel_rfl) rfl hI ?_
  clear hI
  intro b2 _ hI
  refine bp 1 1 (ro (go_seq ?_))
  refine go_seq_join (o := r) (fun b7 f w => ∃ (j : Nat → Value), f = updL j [(1, vP b2 0), (21, vB b7)] ∧ Inv M w [.blk b2 40 [vS A0z0 a0.Keys.length c0z0, vS A0z1 a0.Txns.length c0z1]]) (fun b7 => index_Check.j1 a0 b7) ?_ (fun hJ8 => ?_)
  · clear H hI
    rintro b7 _ _ ⟨_, rfl, hI⟩ H
    replace H := cond_some H
    rcases H with ⟨hc9, H⟩ | ⟨hc9, H⟩
    · refine gt hc9 (go_seq (rp 1 ?_))
      replace H := Option.some.inj H
      subst H
      exact gr Try.func41 ⟨rfl, hI.pn⟩
    · refine ge hc9 (go_skip (go_seq (go_seq (rg [.p, .l 0 0, .p, .p] (gA (hI.grp 0 rfl)) (go_block ?_)))))
      refine go_iter (index_Check.s2 a0) (fun x147 f w => ∃ (j : Nat → Value), f = updL j [(1, vP b2 0), (23, vS A0z0 a0.Keys.length c0z0), (24, vI (a0.Keys.length : Int)), (25, vI x147)] ∧ Inv M w [.blk b2 40 [vS A0z0 a0.Keys.length c0z0, vS A0z1 a0.Txns.length c0z1]]) H ⟨_, at_, hI⟩ ?_
      clear H hI
      rintro x147 _ _ o1 H ⟨_, rfl, hI⟩ hin1 hout1
      refine go_seq (rp 1 (go_seq ?_))
      replace H := cond_some H
      rcases H with ⟨hc149, H⟩ | ⟨hc149, H⟩
      · refine gt hc149 (go_skip (go_seq (go_block (go_seq (r_in ?_)))))
        replace H := must_some H
        obtain ⟨g181, H⟩ := H
        obtain ⟨b182, q183, rfl, _⟩ := rdS.fopen hr0z0 rfl g181
        refine bx 0 [.p, .x, .l 0 0, .p, .p] (gA (hI.lies (rdS.flook hr0z0 rfl g181))) _ (bZ g181) (ro ?_)
        refine go_seq_join (o := o1) (fun b193 f w => ∃ (j : Nat → Value), f = updL j [(1, vP b2 0), (23, vS (some ⟨b182, q183, none⟩) a0.Keys.length c0z0), (24, vI (a0.Keys.length : Int)), (25, vI x147), (44, vB b193)] ∧ Inv M w [.blk b2 40 [vS (some ⟨b182, q183, none⟩) a0.Keys.length c0z0, vS A0z1 a0.Txns.length c0z1]]) (fun b193 => index_Check.j3 x147 b193) ?_ (fun hJ194 => ?_)
        · clear H hI
          rintro b193 _ _ ⟨_, rfl, hI⟩ H
          replace H := cond_some H
          rcases H with ⟨hc195, H⟩ | ⟨hc195, H⟩
          · refine gt hc195 (go_seq (rp 1 ?_))
            replace H := out_some H
            obtain ⟨_, H, he1⟩ := H
            have he := (hout1 _ he1).symm
            subst he
            replace H := Option.some.inj H
            subst H
            exact gr Try.func41 ⟨rfl, hI.pn⟩
          · refine ge hc195 (go_skip (go_inBlock (rp 2 ?_)))
            exact hin1 _ (Option.some.inj H).symm _ _ ⟨_, at_, hI⟩
        · refine r_in ?_
          replace H := cond_some H
          rcases H with ⟨hc196, H⟩ | ⟨hc196, H⟩
          · refine bx 0 [.p, .p, .c true, .p, .p, .p, .p, .p, .p, .p, .p, .p, .p, .p, .p] gO _ (bZ (bndEq hc196)) (ro ?_)
            exact hJ194 true _ _ ⟨_, at_, hI⟩ H
          · replace H := cond_some H
            rcases H with ⟨hc197, H⟩ | ⟨hc197, H⟩
            · refine bx 0 [.p, .p, .c false, .p, .p, .p, .p, .c true, .p, .p, .p, .p, .p, .p, .p] gO _ (bC (bndEq hc196) (bZ (bndEq hc197))) (ro ?_)
              exact hJ194 true _ _ ⟨_, at_, hI⟩ H
            · refine bx 0 [.p, .p, .c false, .p, .p, .p, .p, .c false, .p, .l 0 0, .p] (gA (hI.grp 0 rfl)) _ (bC (bndEq hc196) (bZ (bndEq hc197))) ?_
              replace H := must_some H
              obtain ⟨g198, H⟩ := H
              refine oe 11 rfl ?_
              refine e_slice_ro tStr _ 37 9 _ _ _ _ (some ⟨b182, q183, none⟩) c0z0 a0.Keys .i64 .i64 (0 : Int) x147 rfl (by kernel_rfl) (by kernel_rfl) (by kernel_rfl) rfl rfl rfl hr0z0 hl0z0 g198 ?_
              intro A199 c200 hr201 hl202
              refine bp 12 1 ?_
              replace H := bind_some H
              obtain ⟨y203, hy204, H⟩ := H
              refine oe 13 rfl ?_
              refine ec (enter47 _) (slices_Contains_string_calls A199 c200 (subl a0.Keys (0 : Int) x147) (idx a0.Keys x147) (memOf _) _ (Inv.start _) (hI.rd hr201) hl202 _ hy204) ?_
              rintro _ _ ⟨rfl, hI'⟩
              replace hI := hI.call0 hI'
              clear hI'
              refine ⟨_, rfl, ?_⟩
              refine bp 14 1 (ro ?_)
              exact hJ194 y203 _ _ ⟨_, at_, hI⟩ H
      · refine ge hc149 ?_
        refine go_exit rfl ?_
        refine go_seq (r_in ?_)
        replace H := bind_some H
        obtain ⟨y215, hy216, H⟩ := H
        refine oe 0 rfl ?_
        refine ec (enter48 _) (index_newLedger_calls (memOf _) _ (Inv.start _) _ hy216) ?_
        rintro _ _ ⟨b217, A218, c219, b220, A221, c222, b223, b224, rfl, hI'⟩
        replace hI := hI.call0 hI'
        clear hI'
        refine ⟨_, rfl, ?_⟩
        refine bp 1 1 (ro (go_seq (go_seq (rg [.p, .l 0 1, .p, .p] (gA (hI.grp 0 rfl)) (go_block ?_)))))
        refine go_iter (index_Check.s4 a0) (fun (l1910, m1913, l1915, m1918, m1920, x1922) f w => ∃ (j : Nat → Value) (A1911 : Option Addr) (c1912 : Nat) (b1914 : Nat) (A1916 : Option Addr) (c1917 : Nat) (b1919 : Nat) (b1921 : Nat), f = updL j [(1, vP b2 0), (5, vP b217 0), (48, vS A0z1 a0.Txns.length c0z1), (49, vI (a0.Txns.length : Int)), (50, vI x1922)] ∧ Inv M w [.blk b2 40 [vS A0z0 a0.Keys.length c0z0, vS A0z1 a0.Txns.length c0z1], .blk b217 117 [vS A1911 l1910.length c1912, .map (some b1914), vS A1916 l1915.length c1917, .map (some b1919), .map (some b1921)], .row tStr 9 A1911 l1910.length c1912 l1910, mapA (fun x : ByteArray => .string x) (fun x : Int => vI x) b1914 m1913, .row (tInt .i64) 3 A1916 l1915.length c1917 l1915, mapA (fun x : IndexFact => .agg #[.string x.key, vI x.arg]) (fun _ : Unit => .agg #[]) b1919 m1918, mapO (fun x : ByteArray => .string x) (tSlice 3 (tInt .i64)) b1921 m1920]) H ⟨_, A218, c219, b220, A221, c222, b223, b224, at_, hI⟩ ?_
        clear H hI
        rintro ⟨l1910, m1913, l1915, m1918, m1920, x1922⟩ _ _ o2 H ⟨_, A1911, c1912, b1914, A1916, c1917, b1919, b1921, rfl, hI⟩ hin2 hout2
        refine go_seq (rp 1 (go_seq ?_))
        replace H := cond_some H
        rcases H with ⟨hc1924, H⟩ | ⟨hc1924, H⟩
        · refine gt hc1924 (go_skip (go_seq (go_block (go_seq (r_in ?_)))))
          replace H := must_some H
          obtain ⟨g2300, H⟩ := H
          obtain ⟨b2304, q2305, rfl, cs2303, hk2302, hg2301⟩ := rdS.open hr0z1 rfl g2300
          obtain ⟨_, _, rfl, rfl, ⟨_, _, rfl, rfl, ⟨_, _, rfl, rfl, ⟨_, _, rfl, rfl, ⟨A2306, c2307, rfl, hl2309, hr2308⟩⟩⟩⟩⟩ := hk2302
          refine bx 0 [.p, .x, .l 0 0] (gA (hI.lies hg2301)) _ (bZ g2300) (oe 3 rfl ?_)
          refine e_alloc 61 (.agg #[vI 0, vI 0, vI 0, vI 0, vS none 0 0]) [vI 0, vI 0, vI 0, vI 0, vS none 0 0] rfl (by kernel_rfl) rfl hI ?_
          clear hI
          intro b2310 _ hI
          refine bp 4 1 (oe 5 rfl ?_)
          refine e_store 61 _ _ 7 b2310 61 [vI 0, vI 0, vI 0, vI 0, vS none 0 0] [vI ((idx a0.Txns x1922).Proc), vI ((idx a0.Txns x1922).Status), vI ((idx a0.Txns x1922).From), vI ((idx a0.Txns x1922).To), vS A2306 (((idx a0.Txns x1922).Ops).length) c2307] 0 (.agg #[vI ((idx a0.Txns x1922).Proc), vI ((idx a0.Txns x1922).Status), vI ((idx a0.Txns x1922).From), vI ((idx a0.Txns x1922).To), vS A2306 (((idx a0.Txns x1922).Ops).length) c2307]) rfl (by kernel_rfl) (by kernel_rfl) (by kernel_rfl) (by kernel_rfl) hI rfl (by kernel_rfl) (by kernel_rfl) ?_
          clear hI
          intro _ hI
          refine ro (go_seq (r_in (bg 0 [.l 0 0, .l 1 0] (gB (hI.grp 0 rfl) (hI.grp 7 rfl)) ?_)))
          replace H := bind_some H
          obtain ⟨y2316, hy2317, H⟩ := H
          refine oe 2 rfl ?_
          refine ec (enter49 _) (index_calls_calls a0 A0z0 c0z0 (some ⟨b2304, q2305, none⟩) c0z1 (idx a0.Txns x1922) A2306 c2307 (memOf _) _ (Inv.start _) M.blk hI.fix hr0z0 hl0z0 hr0z1 hl0z1 hr2308 hl2309 _ hy2317) ?_
          rintro _ _ ⟨A2318, c2319, rfl, hI'⟩
          replace hI := hI.call0 hI'
          clear hI'
          refine ⟨_, rfl, ?_⟩
          refine bp 3 3 (oe 6 rfl ?_)
          refine e_alloc 92 (.agg #[vI 0, vI 0, vS none 0 0]) [vI 0, vI 0, vS none 0 0] rfl (by kernel_rfl) rfl hI ?_
          clear hI
          intro b2320 _ hI
          refine oe 7 rfl ?_
          refine e_store 92 _ _ 9 b2320 92 [vI 0, vI 0, vS none 0 0] [vI y2316.1.Proc, vI y2316.1.Kind, vS A2318 y2316.1.Calls.length c2319] 0 (.agg #[vI y2316.1.Proc, vI y2316.1.Kind, vS A2318 y2316.1.Calls.length c2319]) rfl (by kernel_rfl) (by kernel_rfl) (by kernel_rfl) (by kernel_rfl) hI rfl (by kernel_rfl) (by kernel_rfl) ?_
          clear hI
          intro _ hI
          refine bp 8 1 (ro (go_seq ?_))
          refine go_seq_join (o := o2) (fun b2339 f w => ∃ (j : Nat → Value), f = updL j [(1, vP b2 0), (5, vP b217 0), (6, vI x1922), (8, vP b2320 0), (48, vS (some ⟨b2304, q2305, none⟩) a0.Txns.length c0z1), (49, vI (a0.Txns.length : Int)), (50, vI x1922), (71, vB b2339)] ∧ Inv M w [.blk b2 40 [vS A0z0 a0.Keys.length c0z0, vS (some ⟨b2304, q2305, none⟩) a0.Txns.length c0z1], .blk b217 117 [vS A1911 l1910.length c1912, .map (some b1914), vS A1916 l1915.length c1917, .map (some b1919), .map (some b1921)], .row tStr 9 A1911 l1910.length c1912 l1910, mapA (fun x : ByteArray => .string x) (fun x : Int => vI x) b1914 m1913, .row (tInt .i64) 3 A1916 l1915.length c1917 l1915, mapA (fun x : IndexFact => .agg #[.string x.key, vI x.arg]) (fun _ : Unit => .agg #[]) b1919 m1918, mapO (fun x : ByteArray => .string x) (tSlice 3 (tInt .i64)) b1921 m1920, .blk b2320 92 [vI y2316.1.Proc, vI y2316.1.Kind, vS A2318 y2316.1.Calls.length c2319], .row (kCallL M.blk) 97 A2318 y2316.1.Calls.length c2319 y2316.1.Calls]) (fun b2339 => index_Check.j5 l1910 m1913 l1915 m1918 m1920 x1922 y2316 b2339) ?_ (fun hJ2340 => ?_)
          · clear H hI
            rintro b2339 _ _ ⟨_, rfl, hI⟩ H
            replace H := cond_some H
            rcases H with ⟨hc2341, H⟩ | ⟨hc2341, H⟩
            · refine gt hc2341 (go_seq (rp 1 ?_))
              replace H := out_some H
              obtain ⟨_, H, he2⟩ := H
              have he := (hout2 _ he2).symm
              subst he
              replace H := out_some H
              obtain ⟨_, H, he1⟩ := H
              have he := (hout1 _ he1).symm
              subst he
              replace H := Option.some.inj H
              subst H
              exact gr Try.func41 ⟨rfl, hI.pn⟩
            · refine ge hc2341 (go_skip (go_seq (rg [.p, .l 0 2, .p, .p] (gA (hI.grp 7 rfl)) (go_block ?_))))
              refine go_iter (index_Check.s6 x1922 y2316) (fun (l2615, m2618, l2620, m2623, m2625, x2627) f w => ∃ (j : Nat → Value) (A2616 : Option Addr) (c2617 : Nat) (b2619 : Nat) (A2621 : Option Addr) (c2622 : Nat) (b2624 : Nat) (b2626 : Nat), f = updL j [(1, vP b2 0), (5, vP b217 0), (6, vI x1922), (48, vS (some ⟨b2304, q2305, none⟩) a0.Txns.length c0z1), (49, vI (a0.Txns.length : Int)), (50, vI x1922), (73, vS A2318 y2316.1.Calls.length c2319), (74, vI (y2316.1.Calls.length : Int)), (75, vI x2627)] ∧ Inv M w [.blk b2 40 [vS A0z0 a0.Keys.length c0z0, vS (some ⟨b2304, q2305, none⟩) a0.Txns.length c0z1], .blk b217 117 [vS A2616 l2615.length c2617, .map (some b2619), vS A2621 l2620.length c2622, .map (some b2624), .map (some b2626)], .row tStr 9 A2616 l2615.length c2617 l2615, mapA (fun x : ByteArray => .string x) (fun x : Int => vI x) b2619 m2618, .row (tInt .i64) 3 A2621 l2620.length c2622 l2620, mapA (fun x : IndexFact => .agg #[.string x.key, vI x.arg]) (fun _ : Unit => .agg #[]) b2624 m2623, mapO (fun x : ByteArray => .string x) (tSlice 3 (tInt .i64)) b2626 m2625, .row (kCallL M.blk) 97 A2318 y2316.1.Calls.length c2319 y2316.1.Calls]) H ⟨_, A1911, c1912, b1914, A1916, c1917, b1919, b1921, at_, hI.pick [0, 1, 2, 3, 4, 5, 6, 8] (by decide) rfl⟩ ?_
              clear H hI
              rintro ⟨l2615, m2618, l2620, m2623, m2625, x2627⟩ _ _ o3 H ⟨_, A2616, c2617, b2619, A2621, c2622, b2624, b2626, rfl, hI⟩ hin3 hout3
              refine go_seq (rp 1 (go_seq ?_))
              replace H := cond_some H
              rcases H with ⟨hc2629, H⟩ | ⟨hc2629, H⟩
              · refine gt hc2629 (go_skip (go_seq (go_block (go_seq (r_in ?_)))))
                replace H := must_some H
                obtain ⟨g2690, H⟩ := H
                obtain ⟨b2691, rfl⟩ := hI.rowAt 7 rfl g2690
                obtain ⟨cs2694, hk2693, hg2692⟩ := rdS.look (hI.row 7 rfl) (hI.rowlen 7 rfl) g2690
                obtain ⟨_, _, rfl, rfl, ⟨_, _, rfl, rfl, ⟨_, _, rfl, rfl, ⟨_, _, rfl, rfl, ⟨A2695, c2696, rfl, hl2698, hr2697⟩⟩⟩⟩⟩ := hk2693
                refine bx 0 [.x, .l 0 0] (gA hg2692.ok) _ (bZ g2690) (oe 2 rfl ?_)
                refine e_alloc 97 (.agg #[vI 0, .string (⟨#[]⟩ : ByteArray), vI 0, vB false, vS none 0 0]) [vI 0, .string (⟨#[]⟩ : ByteArray), vI 0, vB false, vS none 0 0] rfl (by kernel_rfl) rfl hI ?_
                clear hI
                intro b2699 _ hI
                refine oe 3 rfl ?_
                refine e_store 97 _ _ 8 b2699 97 [vI 0, .string (⟨#[]⟩ : ByteArray), vI 0, vB false, vS none 0 0] [vI ((idx y2316.1.Calls x2627).Kind), .string ((idx y2316.1.Calls x2627).Key), vI ((idx y2316.1.Calls x2627).Arg), vB ((idx y2316.1.Calls x2627).Got), vS A2695 (((idx y2316.1.Calls x2627).Vals).length) c2696] 0 (.agg #[vI ((idx y2316.1.Calls x2627).Kind), .string ((idx y2316.1.Calls x2627).Key), vI ((idx y2316.1.Calls x2627).Arg), vB ((idx y2316.1.Calls x2627).Got), vS A2695 (((idx y2316.1.Calls x2627).Vals).length) c2696]) rfl (by kernel_rfl) (by kernel_rfl) (by kernel_rfl) (by kernel_rfl) hI rfl (by kernel_rfl) (by kernel_rfl) ?_
                clear hI
                intro _ hI
                refine ro (go_seq (r_in (bg 0 [.p, .l 0 0, .p] (gA (hI.grp 8 rfl)) ?_)))
                replace H := bind_some H
                obtain ⟨y2719, hy2720, H⟩ := H
                obtain ⟨M2714, hJ2715, hs2716, hro2717, hback2718⟩ := hI.call (R := [.blk b217 117 [vS A2616 l2615.length c2617, .map (some b2619), vS A2621 l2620.length c2622, .map (some b2624), .map (some b2626)], .row tStr 9 A2616 l2615.length c2617 l2615, mapA (fun x : ByteArray => .string x) (fun x : Int => vI x) b2619 m2618, .row (tInt .i64) 3 A2621 l2620.length c2622 l2620, mapA (fun x : IndexFact => .agg #[.string x.key, vI x.arg]) (fun _ : Unit => .agg #[]) b2624 m2623, mapO (fun x : ByteArray => .string x) (tSlice 3 (tInt .i64)) b2626 m2625]) (L0 := [.blk b2 40 [vS A0z0 a0.Keys.length c0z0, vS (some ⟨b2304, q2305, none⟩) a0.Txns.length c0z1], .row (kCallL M.blk) 97 (some ⟨b2691, 0, none⟩) y2316.1.Calls.length c2319 y2316.1.Calls, .blk b2699 97 [vI ((idx y2316.1.Calls x2627).Kind), .string ((idx y2316.1.Calls x2627).Key), vI ((idx y2316.1.Calls x2627).Arg), vB ((idx y2316.1.Calls x2627).Got), vS A2695 (((idx y2316.1.Calls x2627).Vals).length) c2696]]) [1, 2, 3, 4, 5, 6] [0, 7, 8] (by decide) rfl
                refine oe 3 rfl ?_
                refine ec (enter51 _) (index_ledger_enter_calls b217 (⟨l2615, m2618, l2620, m2623, m2625⟩ : IndexLedger) A2616 c2617 b2619 A2621 c2622 b2624 b2626 (idx y2316.1.Calls x2627) A2695 c2696 x1922 M2714 _ hJ2715 (rdS.mono hr2697 hs2716) hl2698 _ hy2720) ?_
                rintro _ _ ⟨A2721, c2722, b2723, A2724, c2725, b2726, b2727, rfl, hI'⟩
                replace hI := hback2718 _ _ hI'
                clear hI'
                refine ⟨_, rfl, ?_⟩
                refine bp 4 1 (ro ?_)
                replace H := cond_some H
                rcases H with ⟨hc2728, H⟩ | ⟨hc2728, H⟩
                · refine gt hc2728 (go_seq (rp 1 ?_))
                  replace H := out_some H
                  obtain ⟨_, H, he3⟩ := H
                  have he := (hout3 _ he3).symm
                  subst he
                  replace H := out_some H
                  obtain ⟨_, H, he2⟩ := H
                  have he := (hout2 _ he2).symm
                  subst he
                  replace H := out_some H
                  obtain ⟨_, H, he1⟩ := H
                  have he := (hout1 _ he1).symm
                  subst he
                  replace H := Option.some.inj H
                  subst H
                  exact gr Try.func41 ⟨rfl, hI.pn⟩
                · refine ge hc2728 (go_skip (go_inBlock (rp 2 ?_)))
                  exact hin3 _ (Option.some.inj H).symm _ _ ⟨_, A2721, c2722, b2723, A2724, c2725, b2726, b2727, at_, hI.pick [6, 0, 1, 2, 3, 4, 5, 7] (by decide) rfl⟩
              · refine ge hc2629 ?_
                refine go_exit rfl ?_
                refine go_inBlock (rp 2 ?_)
                replace H := out_some H
                obtain ⟨_, H, he3⟩ := H
                have he := (hout3 _ he3).symm
                subst he
                exact hin2 _ (Option.some.inj H).symm _ _ ⟨_, A2616, c2617, b2619, A2621, c2622, b2624, b2626, at_, hI.pick [0, 1, 2, 3, 4, 5, 6] (by decide) rfl⟩
          · replace H := cond_some H
            rcases H with ⟨hc2729, H⟩ | ⟨hc2729, H⟩
            · refine dx [.p, .p, .c true, .p, .p, .p, .p, .p, .p, .p, .p] gO _ (bZ (bndEq hc2729)) hI ?_
              clear hI
              intro _ hI
              exact hJ2340 true _ _ ⟨_, at_, hI.pick [0, 1, 2, 3, 4, 5, 6, 9, 8] (by decide) rfl⟩ H
            · replace H := must_some H
              obtain ⟨g2730, H⟩ := H
              replace H := bind_some H
              obtain ⟨y2735, hy2736, H⟩ := H
              refine go_held (fun w => Inv M w [.blk b2 40 [vS A0z0 a0.Keys.length c0z0, vS (some ⟨b2304, q2305, none⟩) a0.Txns.length c0z1], .blk b217 117 [vS A1911 l1910.length c1912, .map (some b1914), vS A1916 l1915.length c1917, .map (some b1919), .map (some b1921)], .row tStr 9 A1911 l1910.length c1912 l1910, mapA (fun x : ByteArray => .string x) (fun x : Int => vI x) b1914 m1913, .row (tInt .i64) 3 A1916 l1915.length c1917 l1915, mapA (fun x : IndexFact => .agg #[.string x.key, vI x.arg]) (fun _ : Unit => .agg #[]) b1919 m1918, mapO (fun x : ByteArray => .string x) (tSlice 3 (tInt .i64)) b1921 m1920, .blk b2310 61 [vI ((idx a0.Txns x1922).Proc), vI ((idx a0.Txns x1922).Status), vI ((idx a0.Txns x1922).From), vI ((idx a0.Txns x1922).To), vS A2306 (((idx a0.Txns x1922).Ops).length) c2307], .row (kCallL M.blk) 97 A2318 y2316.1.Calls.length c2319 y2316.1.Calls, .blk b2320 92 [vI y2316.1.Proc, vI y2316.1.Kind, vS A2318 y2316.1.Calls.length c2319]]) (by kernel_rfl) ?_
              replace hI := hI.drew'
              refine hx (n := 4) [(0, .p), (1, .p), (2, .c false), (3, .p), (4, .l 0 1), (5, .p), (7, .l 1 0)] (fun _ hS => (gB (hS.grp 0 rfl) (hS.grp 7 rfl))) hI _ (bZ (bndEq hc2729)) ?_
              refine ho (n := 3) 6 rfl (e_slice_ro kTxn _ 38 61 _ _ _ _ (some ⟨b2304, q2305, none⟩) c0z1 a0.Txns .i64 .i64 (0 : Int) x1922 rfl (by kernel_rfl) (by kernel_rfl) (by kernel_rfl) rfl rfl rfl hr0z1 hl0z1 g2730 ?_)
              intro A2731 c2732 hr2733 hl2734
              refine ⟨hI, ?_⟩
              refine ho (n := 2) 8 rfl (ec (enter50 _) (index_placed_calls A2731 c2732 (subl a0.Txns (0 : Int) x1922) (idx a0.Txns x1922) A2306 c2307 (memOf _) _ (Inv.start _) (hI.rd hr2733) hl2734 (hI.rd hr2308) hl2309 _ hy2736) ?_)
              rintro _ _ ⟨rfl, hI'⟩
              replace hI := hI.call0 hI'
              clear hI'
              refine ⟨_, rfl, ?_⟩
              refine ⟨hI, ?_⟩
              refine hg (n := 0) [(9, .p), (10, .p)] (fun _ hS => gO) hI (hd ?_)
              exact hJ2340 (!y2735) _ _ ⟨_, at_, hI.pick [0, 1, 2, 3, 4, 5, 6, 9, 8] (by decide) rfl⟩ H
        · refine ge hc1924 ?_
          refine go_exit rfl ?_
          refine go_seq (rp 1 ?_)
          replace H := out_some H
          obtain ⟨_, H, he2⟩ := H
          have he := (hout2 _ he2).symm
          subst he
          replace H := out_some H
          obtain ⟨_, H, he1⟩ := H
          have he := (hout1 _ he1).symm
          subst he
          replace H := Option.some.inj H
          subst H
          exact gr Try.func41 ⟨rfl, hI.pn⟩
  · refine r_in ?_
    replace H := cond_some H
    rcases H with ⟨hc2737, H⟩ | ⟨hc2737, H⟩
    · refine bx 0 [.p, .l 0 0, .p, .p, .c true, .p, .p, .p, .p, .p] (gA (hI.grp 0 rfl)) _ (bZ (bndEq hc2737)) (ro ?_)
      exact hJ8 true _ _ ⟨_, at_, hI⟩ H
    · refine bx 0 [.p, .l 0 0, .p, .p, .c false, .p, .l 0 1, .p, .p, .p] (gA (hI.grp 0 rfl)) _ (bZ (bndEq hc2737)) (ro ?_)
      exact hJ8 (decide ((a0.Txns.length : Int) > 32)) _ _ ⟨_, at_, hI⟩ H

/-! ### state_register_without -/
theorem enter91 (a : Array Value) : Sem.pureRun Try.prog (callFunc 91 a) = some (.enter 91 a) := by kernel_rfl
theorem state_register_without_calls (a0 : Unit) (A1z : Option Addr) (c1z : Nat) (a1 : List Int) (A2z : Option Addr) (c2z : Nat) (a2 : List Int) (M : Mem) (w : World) (hI : Inv M w []) (hr1z : rdS (tInt .i64) M.blk A1z a1) (hl1z : a1.length ≤ c1z) (hr2z : rdS (tInt .i64) M.blk A2z a2) (hl2z : a2.length ≤ c2z) (r : List Int × Bool) (H : state_register_without a0 a1 a2 = some r) :
    Calls Try.prog 91 #[.agg #[], vS A1z a1.length c1z, vS A2z a2.length c2z] w fun e w' => ∃ (A18 : Option Addr), ∃ (c19 : Nat), e = .returned (.tuple #[vS A18 r.1.length c19, vB r.2]) ∧ Inv M w' [.row (tInt .i64) 2 A18 r.1.length c19 r.1] := by
  refine cg Try.func91 ?_
  intro cs
  unfold state_register_without at H
  refine go_seq (r_in (oe 0 rfl ?_))
  refine e_box 83 _ (.agg #[]) [] rfl (by kernel_rfl) rfl hI ?_
  clear hI
  intro b2 _ hI
  refine bp 1 2 (ro (go_seq ?_))
  replace H := cond_some H
  rcases H with ⟨hc10, H⟩ | ⟨hc10, H⟩
  · replace H := must_some H
    obtain ⟨g11, H⟩ := H
    obtain ⟨b12, q13, rfl, _⟩ := rdS.fopen hr1z rfl g11
    replace H := must_some H
    obtain ⟨g14, H⟩ := H
    obtain ⟨b15, q16, rfl, _⟩ := rdS.fopen hr2z rfl g14
    refine dx [.p, .p, .p, .c true, .p, .x, .l 0 0, .p, .p, .p, .p, .x, .l 1 0, .p, .p, .p, .p] (gB (hI.lies (rdS.flook hr1z rfl g11)) (hI.lies (rdS.flook hr2z rfl g14))) _ (bC (bndEq hc10) (bC g11 (bZ g14))) hI ?_
    clear hI
    intro _ hI
    replace H := Option.some.inj H
    subst H
    exact gr Try.func91 ⟨none, 0, rfl, (hI.nilrow (tInt .i64) 2).pick [1] (by decide) rfl⟩
  · refine dx [.p, .p, .p, .c false, .p, .p, .p, .p, .p, .p, .p, .p, .p, .p, .p, .p, .p] gO _ (bZ (bndEq hc10)) hI ?_
    clear hI
    intro _ hI
    replace H := Option.some.inj H
    subst H
    exact gr Try.func91 ⟨none, 0, rfl, (hI.nilrow (tInt .i64) 2).pick [1] (by decide) rfl⟩

/-! ### slices_Equal_int64 -/
theorem enter96 (a : Array Value) : Sem.pureRun Try.prog (callFunc 96 a) = some (.enter 96 a) := by kernel_rfl
theorem slices_Equal_int64zcalls (A0z : Option Addr) (c0z : Nat) (a0 : List Int) (A1z : Option Addr) (c1z : Nat) (a1 : List Int) (M : Mem) (w : World) (hI : Inv M w []) (hr0z : rdS (tInt .i64) M.blk A0z a0) (hl0z : a0.length ≤ c0z) (hr1z : rdS (tInt .i64) M.blk A1z a1) (hl1z : a1.length ≤ c1z) (r : Bool) (H : slices_Equal_int64 a0 a1 = some r) :
    Calls Try.prog 96 #[vS A0z a0.length c0z, vS A1z a1.length c1z] w fun e w' => e = .returned (vB r) ∧ Inv M w' [] := by
  refine cg Try.func96 ?_
  intro cs
  unfold slices_Equal_int64 at H
  refine go_seq (rp 1 (go_seq (go_seq (rp 5 ?_))))
  replace H := cond_some H
  rcases H with ⟨hc2, H⟩ | ⟨hc2, H⟩
  · refine gt hc2 (go_seq (rp 1 ?_))
    replace H := Option.some.inj H
    subst H
    exact gr Try.func96 ⟨rfl, hI⟩
  · refine ge hc2 (go_skip (go_seq (go_seq (rp 3 (go_block ?_)))))
    refine go_iter (slices_Equal_int64.s1 a0 a1) (fun x84 f w => ∃ (j : Nat → Value), f = updL j [(0, vS A0z a0.length c0z), (1, vS A1z a1.length c1z), (12, vI (a0.length : Int)), (13, vI x84)] ∧ Inv M w []) H ⟨_, at_, hI⟩ ?_
    clear H hI
    rintro x84 _ _ o1 H ⟨_, rfl, hI⟩ hin1 hout1
    refine go_seq (rp 1 (go_seq ?_))
    replace H := cond_some H
    rcases H with ⟨hc86, H⟩ | ⟨hc86, H⟩
    · refine gt hc86 (go_skip (go_seq (go_block (go_seq (rp 2 (go_seq ?_))))))
      replace H := must_some H
      obtain ⟨g107, H⟩ := H
      obtain ⟨b108, q109, rfl, _⟩ := rdS.fopen hr0z rfl g107
      replace H := must_some H
      obtain ⟨g110, H⟩ := H
      obtain ⟨b111, q112, rfl, _⟩ := rdS.fopen hr1z rfl g110
      refine dx [.p, .p, .x, .l 0 0, .p, .p, .x, .l 1 0, .p] (gB (hI.lies (rdS.flook hr0z rfl g107)) (hI.lies (rdS.flook hr1z rfl g110))) _ (bC g107 (bZ g110)) hI ?_
      clear hI
      intro _ hI
      replace H := cond_some H
      rcases H with ⟨hc113, H⟩ | ⟨hc113, H⟩
      · refine gt hc113 (go_seq (rp 1 ?_))
        replace H := out_some H
        obtain ⟨_, H, he1⟩ := H
        have he := (hout1 _ he1).symm
        subst he
        replace H := Option.some.inj H
        subst H
        exact gr Try.func96 ⟨rfl, hI⟩
      · refine ge hc113 (go_skip (go_inBlock (rp 2 ?_)))
        exact hin1 _ (Option.some.inj H).symm _ _ ⟨_, at_, hI⟩
    · refine ge hc86 ?_
      refine go_exit rfl ?_
      refine go_seq (rp 1 ?_)
      replace H := out_some H
      obtain ⟨_, H, he1⟩ := H
      have he := (hout1 _ he1).symm
      subst he
      replace H := Option.some.inj H
      subst H
      exact gr Try.func96 ⟨rfl, hI⟩

/-! ### state_list_without -/
theorem enter95 (a : Array Value) : Sem.pureRun Try.prog (callFunc 95 a) = some (.enter 95 a) := by kernel_rfl
theorem state_list_without_calls (a0 : Unit) (A1z : Option Addr) (c1z : Nat) (a1 : List Int) (A2z : Option Addr) (c2z : Nat) (a2 : List Int) (M : Mem) (w : World) (hI : Inv M w []) (hr1z : rdS (tInt .i64) M.blk A1z a1) (hl1z : a1.length ≤ c1z) (hr2z : rdS (tInt .i64) M.blk A2z a2) (hl2z : a2.length ≤ c2z) (r : List Int × Bool) (H : state_list_without a0 a1 a2 = some r) :
    Calls Try.prog 95 #[.agg #[], vS A1z a1.length c1z, vS A2z a2.length c2z] w fun e w' => ∃ (A51 : Option Addr), ∃ (c52 : Nat), e = .returned (.tuple #[vS A51 r.1.length c52, vB r.2]) ∧ Inv M w' [.row (tInt .i64) 2 A51 r.1.length c52 r.1] := by
  refine cg Try.func95 ?_
  intro cs
  unfold state_list_without at H
  refine go_seq (r_in (oe 0 rfl ?_))
  refine e_box 84 _ (.agg #[]) [] rfl (by kernel_rfl) rfl hI ?_
  clear hI
  intro b2 _ hI
  refine bp 1 2 (ro (go_seq (rp 6 (go_seq ?_))))
  refine go_seq_join (o := r) (fun b21 f w => ∃ (j : Nat → Value), f = updL j [(1, vS A1z a1.length c1z), (8, vI (w64 ((a1.length : Int) - (a2.length : Int)))), (23, vB b21)] ∧ Inv M w []) (fun b21 => state_list_without.j1 a1 a2 b21) ?_ (fun hJ22 => ?_)
  · clear H hI
    rintro b21 _ _ ⟨_, rfl, hI⟩ H
    replace H := cond_some H
    rcases H with ⟨hc23, H⟩ | ⟨hc23, H⟩
    · refine gt hc23 (go_seq (rp 2 ?_))
      replace H := Option.some.inj H
      subst H
      exact gr Try.func95 ⟨none, 0, rfl, (hI.nilrow (tInt .i64) 2)⟩
    · refine ge hc23 (go_skip (go_seq (r_in (bp 0 2 ?_))))
      replace H := must_some H
      obtain ⟨g33, H⟩ := H
      refine oe 2 rfl ?_
      refine e_slice_ro (tInt .i64) _ 22 2 _ _ _ _ A1z c1z a1 .i64 .i64 (0 : Int) (w64 ((a1.length : Int) - (a2.length : Int))) rfl (by kernel_rfl) (by kernel_rfl) (by kernel_rfl) rfl rfl rfl hr1z hl1z g33 ?_
      intro A34 c35 hr36 hl37
      replace H := bind_some H
      obtain ⟨y38, hy39, H⟩ := H
      refine oe 3 rfl ?_
      refine ec (enter52 _) (slices_Clone_int64zcalls A34 c35 (subl a1 (0 : Int) (w64 ((a1.length : Int) - (a2.length : Int)))) (memOf _) _ (Inv.start _) (hI.rd hr36) hl37 _ hy39) ?_
      rintro _ _ ⟨A40, c41, rfl, hI'⟩
      replace hI := hI.call0 hI'
      clear hI'
      refine ⟨_, rfl, ?_⟩
      refine bp 4 2 (ro ?_)
      replace H := Option.some.inj H
      subst H
      exact gr Try.func95 ⟨A40, c41, rfl, hI⟩
  · refine r_in ?_
    replace H := cond_some H
    rcases H with ⟨hc42, H⟩ | ⟨hc42, H⟩
    · refine bx 0 [.p, .p, .c true, .p, .p, .p, .p, .p, .p, .p] gO _ (bZ (bndEq hc42)) (ro ?_)
      exact hJ22 true _ _ ⟨_, at_, hI.pn⟩ H
    · refine bx 0 [.p, .p, .c false, .p, .p] gO _ (bZ (bndEq hc42)) ?_
      replace H := must_some H
      obtain ⟨g43, H⟩ := H
      refine oe 5 rfl ?_
      refine e_slice_ro (tInt .i64) _ 22 2 _ _ _ _ A1z c1z a1 .i64 .i64 (w64 ((a1.length : Int) - (a2.length : Int))) (a1.length : Int) rfl (by kernel_rfl) (by kernel_rfl) (by kernel_rfl) rfl rfl rfl hr1z hl1z g43 ?_
      intro A44 c45 hr46 hl47
      refine bp 6 1 ?_
      replace H := bind_some H
      obtain ⟨y48, hy49, H⟩ := H
      refine oe 7 rfl ?_
      refine ec (enter96 _) (slices_Equal_int64zcalls A44 c45 (subl a1 (w64 ((a1.length : Int) - (a2.length : Int))) (a1.length : Int)) A2z c2z a2 (memOf _) _ (Inv.start _) (hI.rd hr46) hl47 (hI.rd hr2z) hl2z _ hy49) ?_
      rintro _ _ ⟨rfl, hI'⟩
      replace hI := hI.call0 hI'
      clear hI'
      refine ⟨_, rfl, ?_⟩
      refine bp 8 2 (ro ?_)
      exact hJ22 (!y48) _ _ ⟨_, at_, hI.pn⟩ H

/-! ### slices.Delete   int64 int64  -/
theorem enter103 (a : Array Value) : Sem.pureRun Try.prog (callFunc 103 a) = some (.enter 103 a) := by kernel_rfl
theorem slices_Delete_int64zcalls (A0z : Option Addr) (c0z : Nat) (a0 : List Int) (a1 a2 : Int) (M : Mem) (w : World) (hI : Inv M w [.row (tInt .i64) 2 A0z a0.length c0z a0]) (r : List Int) (H : slices_Delete_int64 a0 a1 a2 = some r) :
    Calls Try.prog 103 #[.slice A0z a0.length c0z, .int .i64 a1, .int .i64 a2] w fun e w' => ∃ (A : Option Addr) (c : Nat), e = .returned (.slice A r.length c) ∧ Inv M w' [.row (tInt .i64) 2 A r.length c r] := by
  refine calls_go (updL (fun _ => undef) [(0, .slice A0z a0.length c0z), (1, .int .i64 a1), (2, .int .i64 a2)]) Try.func103 rfl (by kernel_rfl) ?_
  intro cs
  unfold slices_Delete_int64 at H
  replace H := must_some H
  obtain ⟨⟨g0, g1, g2⟩, H⟩ := H
  replace H := Option.some.inj H
  subst H
  have hle := hI.rowle 0 rfl
  refine go_seq ?_
  refine r_in ?_
  refine o_batch 0 [] [.p] [(6, .slice none 0 0)] [] trivial trivial (by kernel_rfl) (by kernel_rfl) (by kernel_rfl) ?_
  refine r_out (by kernel_rfl) ?_
  refine go_seq ?_
  refine r_in ?_
  refine o_batch 0 [] [.p, .p, .p, .p, .p] [(8, .slice A0z a0.length c0z), (9, .int .i64 a1), (10, .int .i64 a2), (11, .slice A0z a0.length c0z), (12, .int .i64 (a0.length : Int))] [] trivial trivial (by kernel_rfl) (by kernel_rfl) (by kernel_rfl) ?_
  refine o_eff 5 _ rfl (by kernel_rfl) ?_
  refine e_slice3 22 2 _ _ _ _ _ 1 A0z a0.length c0z .i64 .i64 .i64 a1 a2 (a0.length : Int) rfl (by kernel_rfl) (by kernel_rfl) (by kernel_rfl) (by kernel_rfl) rfl rfl rfl ⟨g0, g1, g2, by omega⟩ ?_
  refine r_out (by kernel_rfl) ?_
  repeat refine go_seq ?_
  refine r_in ?_
  refine o_batch 0 [] [.p, .p, .p] [(14, .int .i64 a1), (15, .int .i64 a2), (16, .bool (a1 == a2))] [] trivial trivial (by kernel_rfl) (by kernel_rfl) (by kernel_rfl) ?_
  refine r_out (by kernel_rfl) ?_
  rcases Bool.eq_false_or_eq_true (a1 == a2) with hc | hc
  · refine go_then' (t := (a1 == a2)) (by kernel_rfl) hc ?_
    repeat refine go_seq ?_
    refine r_in ?_
    refine o_batch 0 [] [.p, .p] [(17, .slice A0z a0.length c0z), (6, .slice A0z a0.length c0z)] [] trivial trivial (by kernel_rfl) (by kernel_rfl) (by kernel_rfl) ?_
    refine r_out (by kernel_rfl) ?_
    have he : a0.take a1.toNat ++ a0.drop a2.toNat = a0 := by rw [eq_of_beq hc, List.take_append_drop]
    rw [he]
    exact go_return (.slice A0z a0.length c0z) Try.func103 (by kernel_rfl) ⟨A0z, c0z, rfl, hI⟩
  · have hne : a1 ≠ a2 := by intro e; subst e; simp at hc
    refine go_else' (t := (a1 == a2)) (by kernel_rfl) hc ?_
    refine go_skip ?_
    repeat refine go_seq ?_
    refine r_in ?_
    refine o_batch 0 [] [.p, .p, .p] [(18, .slice A0z a0.length c0z), (19, .int .i64 (a0.length : Int)), (7, .int .i64 (a0.length : Int))] [] trivial trivial (by kernel_rfl) (by kernel_rfl) (by kernel_rfl) ?_
    refine r_out (by kernel_rfl) ?_
    obtain ⟨b, rfl⟩ := hI.rowAt 0 rfl (j := a1) ⟨g0, by omega⟩
    obtain ⟨bs, hI, hbl, hbt, _, hlc, hcm⟩ := hI.openrow 0 rfl
    have hsz : (tInt .i64).sz = 1 := rfl
    rw [hsz, Nat.mul_one] at hbl hbt
    repeat refine go_seq ?_
    have hll : (a0.length : Int).toNat = a0.length := Int.toNat_natCast _
    refine go_held (fun w => Inv M w []) (by kernel_rfl) ?_
    replace hI := hI.drew'
    refine held_batch (n := 2) [] [(0, .p), (1, .p), (2, .x), (3, .p), (4, .p), (5, .x)] [(20, .slice (some ⟨b, 0, none⟩) a0.length c0z), (21, .int .i64 a1), (22, .slice (some ⟨b, 0, none⟩) a1.toNat c0z), (23, .slice (some ⟨b, 0, none⟩) a0.length c0z), (24, .int .i64 a2), (25, sliced (some ⟨b, 0, none⟩) a2.toNat (a0.length : Int).toNat c0z 1)]
      [(a1, c0z + 1), (a2, (a0.length : Int).toNat + 1), ((a0.length : Int), c0z + 1)] [true, true, true, true, true, true, false, false] (by kernel_rfl) (fun w hS => trivial) (hI.pick [] (by decide) rfl) ⟨⟨g0, by omega⟩, ⟨by omega, by omega⟩, ⟨by omega, by omega⟩, trivial⟩ (by kernel_rfl) (by kernel_rfl) (by kernel_rfl) ?_
    have hen : ∀ x : Int, ((fun x : Int => ([.int .i64 x] : List Value)) x).length = 1 := fun _ => rfl
    have hbt' : bs.take (a0.length * 1) = a0.flatMap (fun x : Int => ([.int .i64 x] : List Value)) := by rw [Nat.mul_one]; exact hbt
    have hdc := fun zs => del_cells (zs := zs) (i := a1.toNat) (j := a2.toNat) hen rfl hbt' (by omega) (by omega) (by omega)
    have hpc := part_cells (j := a2.toNat) hen rfl hbt'
    have hsrc := Src.of_blk (sz := 1) (l := a2.toNat) (h := (a0.length : Int).toNat) (m := c0z) hI 0 rfl (by omega) (by omega) (by omega)
    refine held_one (n := 1) 6 _ rfl (by kernel_rfl) (by kernel_rfl) ?_
    refine e_append_in _ _ 22 2 _ 1 0 b a1.toNat c0z ((a0.length : Int).toNat - a2.toNat) _ bs _ rfl (by kernel_rfl) (by kernel_rfl) rfl rfl rfl hI rfl hsrc (by omega) (by simpa using hbl) ?_ ?_
    · rw [hll, hpc]
      exact flats_one (tInt .i64) _
    have hpl : ((bs.drop (a2.toNat * 1)).take (((a0.length : Int).toNat - a2.toNat) * 1)).length = (a0.length : Int).toNat - a2.toNat := by simp; omega
    clear hI
    intro _ hI
    refine ⟨hI.pick [] (by decide) rfl, ?_⟩
    refine held_batch (n := 0) [] [(7, .p)] [(0, .slice (some ⟨b, 0, none⟩) (a1.toNat + ((a0.length : Int).toNat - a2.toNat)) c0z)] [] [true, true, true, true, true, true, true, true] (by kernel_rfl) (fun w hS => trivial) (hI.pick [] (by decide) rfl) trivial (by kernel_rfl) (by kernel_rfl) (by kernel_rfl) ?_
    refine held_done (by kernel_rfl) ?_
    obtain ⟨q, hq⟩ : ∃ q, q = a1.toNat + ((a0.length : Int).toNat - a2.toNat) := ⟨_, rfl⟩
    repeat refine go_seq ?_
    refine r_in ?_
    refine o_batch 0 [] [.p, .p, .p, .p] [(27, .slice (some ⟨b, 0, none⟩) (a1.toNat + ((a0.length : Int).toNat - a2.toNat)) c0z), (28, .slice (some ⟨b, 0, none⟩) (a1.toNat + ((a0.length : Int).toNat - a2.toNat)) c0z), (29, .int .i64 ((a1.toNat + ((a0.length : Int).toNat - a2.toNat) : Nat) : Int)), (30, .int .i64 (a0.length : Int))] [] trivial trivial (by kernel_rfl) (by kernel_rfl) (by kernel_rfl) ?_
    refine o_eff 4 _ rfl (by kernel_rfl) ?_
    refine e_slice2 22 2 _ _ _ _ 1 (some ⟨b, 0, none⟩) (a1.toNat + ((a0.length : Int).toNat - a2.toNat)) c0z .i64 .i64 ((a1.toNat + ((a0.length : Int).toNat - a2.toNat) : Nat) : Int) (a0.length : Int) rfl (by kernel_rfl) (by kernel_rfl) (by kernel_rfl) rfl rfl rfl ⟨by omega, by omega, by omega⟩ ?_
    refine o_eff 5 _ rfl (by kernel_rfl) ?_
    refine e_clear _ 22 2 _ 1 _ 0 b ((a1.toNat + ((a0.length : Int).toNat - a2.toNat) : Nat) : Int).toNat (a0.length : Int).toNat c0z _ rfl (by kernel_rfl) rfl rfl rfl rfl rfl (by kernel_rfl) hI rfl (by omega) (by omega) ?_ ?_
    · rw [splice_len (by omega)]; omega
    clear hI
    intro _ vs hvs hI
    refine r_out (by kernel_rfl) ?_
    repeat refine go_seq ?_
    refine r_in ?_
    refine o_batch 0 [] [.p, .p] [(32, .slice (some ⟨b, 0, none⟩) (a1.toNat + ((a0.length : Int).toNat - a2.toNat)) c0z), (6, .slice (some ⟨b, 0, none⟩) (a1.toNat + ((a0.length : Int).toNat - a2.toNat)) c0z)] [] trivial trivial (by kernel_rfl) (by kernel_rfl) (by kernel_rfl) ?_
    refine r_out (by kernel_rfl) ?_
    have hrl : (a0.take a1.toNat ++ a0.drop a2.toNat).length = a1.toNat + ((a0.length : Int).toNat - a2.toNat) := by simp; omega
    refine go_return (.slice (some ⟨b, 0, none⟩) (a1.toNat + ((a0.length : Int).toNat - a2.toNat)) c0z) Try.func103 (by kernel_rfl) ⟨some ⟨b, 0, none⟩, c0z, by rw [hrl], ?_⟩
    refine hI.closerow (kt := tInt .i64) 0 (a0.take a1.toNat ++ a0.drop a2.toNat) rfl ?_ ?_ (by omega) hcm
    · rw [splice_len, splice_len, hbl, hsz, Nat.mul_one] <;> (try rw [splice_len]) <;> omega
    · rw [hrl, hsz]
      have := hdc vs
      simp only [hll, Int.toNat_natCast] at this ⊢
      exact this

/-! ### state_set_without -/
theorem enter100 (a : Array Value) : Sem.pureRun Try.prog (callFunc 100 a) = some (.enter 100 a) := by kernel_rfl
theorem state_set_without_calls (a0 : Unit) (A1z : Option Addr) (c1z : Nat) (a1 : List Int) (A2z : Option Addr) (c2z : Nat) (a2 : List Int) (M : Mem) (w : World) (hI : Inv M w []) (hr1z : rdS (tInt .i64) M.blk A1z a1) (hl1z : a1.length ≤ c1z) (hr2z : rdS (tInt .i64) M.blk A2z a2) (hl2z : a2.length ≤ c2z) (r : List Int × Bool) (H : state_set_without a0 a1 a2 = some r) :
    Calls Try.prog 100 #[.agg #[], vS A1z a1.length c1z, vS A2z a2.length c2z] w fun e w' => ∃ (A265 : Option Addr), ∃ (c266 : Nat), e = .returned (.tuple #[vS A265 r.1.length c266, vB r.2]) ∧ Inv M w' [.row (tInt .i64) 2 A265 r.1.length c266 r.1] := by
  refine cg Try.func100 ?_
  intro cs
  unfold state_set_without at H
  refine go_seq (r_in (oe 0 rfl ?_))
  refine e_box 85 _ (.agg #[]) [] rfl (by kernel_rfl) rfl hI ?_
  clear hI
  intro b2 _ hI
  refine bp 1 2 (ro (go_seq (r_in (bp 0 1 ?_))))
  replace H := bind_some H
  obtain ⟨y7, hy8, H⟩ := H
  refine oe 1 rfl ?_
  refine ec (enter52 _) (slices_Clone_int64zcalls A1z c1z a1 (memOf _) _ (Inv.start _) (hI.rd hr1z) hl1z _ hy8) ?_
  rintro _ _ ⟨A9, c10, rfl, hI'⟩
  replace hI := hI.call0 hI'
  clear hI'
  refine ⟨_, rfl, ?_⟩
  refine bp 2 1 (ro (go_seq (go_seq (rp 3 (go_block ?_)))))
  refine go_iter (state_set_without.s1 a2) (fun (l207, x210) f w => ∃ (j : Nat → Value) (A208 : Option Addr) (c209 : Nat), f = updL j [(8, vS A208 l207.length c209), (15, vS A2z a2.length c2z), (16, vI (a2.length : Int)), (17, vI x210)] ∧ Inv M w [.row (tInt .i64) 2 A208 l207.length c209 l207]) H ⟨_, A9, c10, at_, hI.pick [1] (by decide) rfl⟩ ?_
  clear H hI
  rintro ⟨l207, x210⟩ _ _ o1 H ⟨_, A208, c209, rfl, hI⟩ hin1 hout1
  refine go_seq (rp 1 (go_seq ?_))
  replace H := cond_some H
  rcases H with ⟨hc212, H⟩ | ⟨hc212, H⟩
  · refine gt hc212 (go_skip (go_seq (go_block (go_seq (r_in ?_)))))
    replace H := must_some H
    obtain ⟨g246, H⟩ := H
    obtain ⟨b247, q248, rfl, _⟩ := rdS.fopen hr2z rfl g246
    refine bx 0 [.x, .l 0 0, .p] (gA (hI.lies (rdS.flook hr2z rfl g246))) _ (bZ g246) (ro (go_seq (r_in (bp 0 2 ?_))))
    replace H := bind_some H
    obtain ⟨y251, hy252, H⟩ := H
    refine oe 2 rfl ?_
    refine ec (enter101 _) (slices_BinarySearch_int64zcalls A208 c209 l207 (idx a2 x210) (memOf _) _ (Inv.start _) (hI.row 0 rfl) (hI.rowle 0 rfl) _ hy252) ?_
    rintro _ _ ⟨rfl, hI'⟩
    replace hI := hI.call0 hI'
    clear hI'
    refine ⟨_, rfl, ?_⟩
    refine bp 3 5 (ro (go_seq (go_seq (rp 2 ?_))))
    replace H := cond_some H
    rcases H with ⟨hc254, H⟩ | ⟨hc254, H⟩
    · refine gt hc254 (go_seq (rp 2 ?_))
      replace H := out_some H
      obtain ⟨_, H, he1⟩ := H
      have he := (hout1 _ he1).symm
      subst he
      replace H := Option.some.inj H
      subst H
      exact gr Try.func100 ⟨none, 0, rfl, (hI.nilrow (tInt .i64) 2).pick [1] (by decide) rfl⟩
    · refine ge hc254 (go_skip (r_in (bp 0 4 ?_)))
      replace H := bind_some H
      obtain ⟨y260, hy261, H⟩ := H
      obtain ⟨M255, hJ256, hs257, hro258, hback259⟩ := hI.call (R := [.row (tInt .i64) 2 A208 l207.length c209 l207]) (L0 := []) [0] [] (by decide) rfl
      refine oe 4 rfl ?_
      refine ec (enter103 _) (slices_Delete_int64zcalls A208 c209 l207 y251.1 (w64 (y251.1 + 1)) M255 _ hJ256 _ hy261) ?_
      rintro _ _ ⟨A262, c263, rfl, hI'⟩
      replace hI := hback259 _ _ hI'
      clear hI'
      refine ⟨_, rfl, ?_⟩
      refine bp 5 1 (ro (go_inBlock (rp 2 ?_)))
      exact hin1 _ (Option.some.inj H).symm _ _ ⟨_, A262, c263, at_, hI⟩
  · refine ge hc212 ?_
    refine go_exit rfl ?_
    refine go_seq (rp 3 ?_)
    replace H := out_some H
    obtain ⟨_, H, he1⟩ := H
    have he := (hout1 _ he1).symm
    subst he
    replace H := Option.some.inj H
    subst H
    exact gr Try.func100 ⟨A208, c209, rfl, hI⟩

/-! ### state_counter_without -/
theorem enter114 (a : Array Value) : Sem.pureRun Try.prog (callFunc 114 a) = some (.enter 114 a) := by kernel_rfl
theorem state_counter_without_calls (a0 : Unit) (A1z : Option Addr) (c1z : Nat) (a1 : List Int) (A2z : Option Addr) (c2z : Nat) (a2 : List Int) (M : Mem) (w : World) (hI : Inv M w []) (hr1z : rdS (tInt .i64) M.blk A1z a1) (hl1z : a1.length ≤ c1z) (hr2z : rdS (tInt .i64) M.blk A2z a2) (hl2z : a2.length ≤ c2z) (r : List Int × Bool) (H : state_counter_without a0 a1 a2 = some r) :
    Calls Try.prog 114 #[.agg #[], vS A1z a1.length c1z, vS A2z a2.length c2z] w fun e w' => ∃ (A96 : Option Addr), ∃ (c97 : Nat), e = .returned (.tuple #[vS A96 r.1.length c97, vB r.2]) ∧ Inv M w' [.row (tInt .i64) 2 A96 r.1.length c97 r.1] := by
  refine cg Try.func114 ?_
  intro cs
  unfold state_counter_without at H
  refine go_seq (r_in (oe 0 rfl ?_))
  refine e_box 86 _ (.agg #[]) [] rfl (by kernel_rfl) rfl hI ?_
  clear hI
  intro b2 _ hI
  refine bp 1 2 (ro (go_seq (r_in ?_)))
  replace H := must_some H
  obtain ⟨g6, H⟩ := H
  obtain ⟨b7, q8, rfl, _⟩ := rdS.fopen hr1z rfl g6
  refine bx 0 [.p, .x, .l 0 0, .p] (gA (hI.lies (rdS.flook hr1z rfl g6))) _ (bZ g6) (ro (go_seq (go_seq (rp 3 (go_block ?_)))))
  refine go_iter (state_counter_without.s1 a2) (fun (x75, x76) f w => ∃ (j : Nat → Value), f = updL j [(8, vI x75), (14, vS A2z a2.length c2z), (15, vI (a2.length : Int)), (16, vI x76)] ∧ Inv M w []) H ⟨_, at_, hI.pn⟩ ?_
  clear H hI
  rintro ⟨x75, x76⟩ _ _ o1 H ⟨_, rfl, hI⟩ hin1 hout1
  refine go_seq (rp 1 (go_seq ?_))
  replace H := cond_some H
  rcases H with ⟨hc78, H⟩ | ⟨hc78, H⟩
  · refine gt hc78 (go_skip (go_seq (go_block (go_seq (r_in ?_)))))
    replace H := must_some H
    obtain ⟨g88, H⟩ := H
    obtain ⟨b89, q90, rfl, _⟩ := rdS.fopen hr2z rfl g88
    refine bx 0 [.x, .l 0 0, .p] (gA (hI.lies (rdS.flook hr2z rfl g88))) _ (bZ g88) (ro (rp 4 (go_inBlock (rp 2 ?_))))
    exact hin1 _ (Option.some.inj H).symm _ _ ⟨_, at_, hI⟩
  · refine ge hc78 ?_
    refine go_exit rfl ?_
    refine go_seq (r_in (bp 0 1 (oe 1 rfl ?_)))
    refine e_partsS 22 2 1 _ _ _ #[vI x75] [vI x75] rfl rfl rfl rfl (by kernel_rfl) (by kernel_rfl) (by kernel_rfl) (by kernel_rfl) hI ?_
    clear hI
    intro b93 _ hs94 hI
    replace hI := hI.asrow (k := (tInt .i64)) (xs := ([x75] : List Int)) (cs := [vI x75]) (R := []) (L' := []) 1 0 [] [] (by decide) rfl (mks_cons (mk_flat (k := (tInt .i64)) x75 [vI x75] rfl) mks_nil) rfl rfl (by kernel_rfl)
    refine bp 2 2 (ro ?_)
    refine go_is 6 (vS (some ⟨b93, 0, none⟩) 1 1) (vS (some ⟨b93, 0, none⟩) (([x75] : List Int).length) 1) (by kernel_rfl) (by first | rfl | simp only [List.length_set, List.length_replicate, List.length_nil]) ?_
    replace hI := hI.renum 0 rfl
    replace H := out_some H
    obtain ⟨_, H, he1⟩ := H
    have he := (hout1 _ he1).symm
    subst he
    replace H := Option.some.inj H
    subst H
    exact gr Try.func114 ⟨(some ⟨b93, 0, none⟩), 1, rfl, hI⟩

/-! ### state_Before -/
theorem enter16 (a : Array Value) : Sem.pureRun Try.prog (callFunc 16 a) = some (.enter 16 a) := by kernel_rfl
theorem state_Before_calls (a0 : Int) (A1z : Option Addr) (c1z : Nat) (a1 : List Int) (A2z : Option Addr) (c2z : Nat) (a2 : List Int) (M : Mem) (w : World) (hI : Inv M w []) (hr1z : rdS (tInt .i64) M.blk A1z a1) (hl1z : a1.length ≤ c1z) (hr2z : rdS (tInt .i64) M.blk A2z a2) (hl2z : a2.length ≤ c2z) (r : List Int × Bool) (H : state_Before a0 a1 a2 = some r) :
    Calls Try.prog 16 #[vI a0, vS A1z a1.length c1z, vS A2z a2.length c2z] w fun e w' => ∃ (A62 : Option Addr), ∃ (c63 : Nat), e = .returned (.tuple #[vS A62 r.1.length c63, vB r.2]) ∧ Inv M w' [.row (tInt .i64) 2 A62 r.1.length c63 r.1] := by
  refine cg Try.func16 ?_
  intro cs
  unfold state_Before at H
  refine go_seq (rp 2 (go_seq ?_))
  refine go_seq_join (o := r) (fun b9 f w => ∃ (j : Nat → Value), f = updL j [(0, vI a0), (1, vS A1z a1.length c1z), (2, vS A2z a2.length c2z), (16, vB b9)] ∧ Inv M w []) (fun b9 => state_Before.j1 a0 a1 a2 b9) ?_ (fun hJ10 => ?_)
  · clear H hI
    rintro b9 _ _ ⟨_, rfl, hI⟩ H
    replace H := cond_some H
    rcases H with ⟨hc11, H⟩ | ⟨hc11, H⟩
    · refine gt hc11 (go_seq (rp 2 ?_))
      replace H := Option.some.inj H
      subst H
      exact gr Try.func16 ⟨none, 0, rfl, (hI.nilrow (tInt .i64) 2)⟩
    · refine ge hc11 (go_skip (go_seq (r_in (bp 0 1 ?_))))
      replace H := bind_some H
      obtain ⟨y35, hy36, H⟩ := H
      refine oe 1 rfl ?_
      refine ec (enter38 _) (state_of_calls a0 (memOf _) _ (Inv.start _) _ hy36) ?_
      rintro _ _ ⟨rfl, hI'⟩
      replace hI := hI.call0 hI'
      clear hI'
      refine ⟨_, rfl, ?_⟩
      replace H := cond_some H
      rcases H with ⟨hc37, H⟩ | ⟨hc37, H⟩
      · refine o_is 18 (ifaceV y35) (.iface 83 (.agg #[])) (by kernel_rfl) (congrArg ifaceV (eq_of_beq hc37)) ?_
        refine bp 2 2 ?_
        replace H := bind_some H
        obtain ⟨y38, hy39, H⟩ := H
        refine oe 4 rfl ?_
        refine e_enter 91 #[.agg #[], vS A1z a1.length c1z, vS A2z a2.length c2z] (by kernel_rfl) (state_register_without_calls () A1z c1z a1 A2z c2z a2 (memOf _) _ (Inv.start _) (hI.rd hr1z) hl1z (hI.rd hr2z) hl2z _ hy39) ?_
        rintro _ _ ⟨A40, c41, rfl, hI'⟩
        replace hI := hI.call0 hI'
        clear hI'
        refine ⟨_, rfl, ?_⟩
        refine bp 5 4 (ro ?_)
        replace H := Option.some.inj H
        subst H
        exact gr Try.func16 ⟨A40, c41, rfl, hI⟩
      · replace H := cond_some H
        rcases H with ⟨hc42, H⟩ | ⟨hc42, H⟩
        · refine o_is 18 (ifaceV y35) (.iface 84 (.agg #[])) (by kernel_rfl) (congrArg ifaceV (eq_of_beq hc42)) ?_
          refine bp 2 2 ?_
          replace H := bind_some H
          obtain ⟨y43, hy44, H⟩ := H
          refine oe 4 rfl ?_
          refine e_enter 95 #[.agg #[], vS A1z a1.length c1z, vS A2z a2.length c2z] (by kernel_rfl) (state_list_without_calls () A1z c1z a1 A2z c2z a2 (memOf _) _ (Inv.start _) (hI.rd hr1z) hl1z (hI.rd hr2z) hl2z _ hy44) ?_
          rintro _ _ ⟨A45, c46, rfl, hI'⟩
          replace hI := hI.call0 hI'
          clear hI'
          refine ⟨_, rfl, ?_⟩
          refine bp 5 4 (ro ?_)
          replace H := Option.some.inj H
          subst H
          exact gr Try.func16 ⟨A45, c46, rfl, hI⟩
        · replace H := cond_some H
          rcases H with ⟨hc47, H⟩ | ⟨hc47, H⟩
          · refine o_is 18 (ifaceV y35) (.iface 85 (.agg #[])) (by kernel_rfl) (congrArg ifaceV (eq_of_beq hc47)) ?_
            refine bp 2 2 ?_
            replace H := bind_some H
            obtain ⟨y48, hy49, H⟩ := H
            refine oe 4 rfl ?_
            refine e_enter 100 #[.agg #[], vS A1z a1.length c1z, vS A2z a2.length c2z] (by kernel_rfl) (state_set_without_calls () A1z c1z a1 A2z c2z a2 (memOf _) _ (Inv.start _) (hI.rd hr1z) hl1z (hI.rd hr2z) hl2z _ hy49) ?_
            rintro _ _ ⟨A50, c51, rfl, hI'⟩
            replace hI := hI.call0 hI'
            clear hI'
            refine ⟨_, rfl, ?_⟩
            refine bp 5 4 (ro ?_)
            replace H := Option.some.inj H
            subst H
            exact gr Try.func16 ⟨A50, c51, rfl, hI⟩
          · replace H := cond_some H
            rcases H with ⟨hc52, H⟩ | ⟨hc52, H⟩
            · refine o_is 18 (ifaceV y35) (.iface 86 (.agg #[])) (by kernel_rfl) (congrArg ifaceV (eq_of_beq hc52)) ?_
              refine bp 2 2 ?_
              replace H := bind_some H
              obtain ⟨y53, hy54, H⟩ := H
              refine oe 4 rfl ?_
              refine e_enter 114 #[.agg #[], vS A1z a1.length c1z, vS A2z a2.length c2z] (by kernel_rfl) (state_counter_without_calls () A1z c1z a1 A2z c2z a2 (memOf _) _ (Inv.start _) (hI.rd hr1z) hl1z (hI.rd hr2z) hl2z _ hy54) ?_
              rintro _ _ ⟨A55, c56, rfl, hI'⟩
              replace hI := hI.call0 hI'
              clear hI'
              refine ⟨_, rfl, ?_⟩
              refine bp 5 4 (ro ?_)
              replace H := Option.some.inj H
              subst H
              exact gr Try.func16 ⟨A55, c56, rfl, hI⟩
            · replace H := cond_some H
              rcases H with ⟨hc57, H⟩ | ⟨hc57, H⟩
              · refine o_is 18 (ifaceV y35) (.nilIface) (by kernel_rfl) (congrArg ifaceV (eq_of_beq hc57)) ?_
                refine bp 2 2 ?_
                cases H
              · cases H
  · refine r_in (bp 0 2 ?_)
    replace H := bind_some H
    obtain ⟨y58, hy59, H⟩ := H
    refine oe 2 rfl ?_
    refine ec (enter21 _) (state_Check_calls a0 A1z c1z a1 (memOf _) _ (Inv.start _) (hI.rd hr1z) hl1z _ hy59) ?_
    rintro _ _ ⟨rfl, hI'⟩
    replace hI := hI.call0 hI'
    clear hI'
    refine ⟨_, rfl, ?_⟩
    replace H := cond_some H
    rcases H with ⟨hc60, H⟩ | ⟨hc60, H⟩
    · refine bx 3 [.p, .c true, .p, .p, .p, .p] gO _ (bZ (bndEq hc60)) (ro ?_)
      exact hJ10 true _ _ ⟨_, at_, hI⟩ H
    · refine bx 3 [.p, .c false, .p, .p, .p, .p] gO _ (bZ (bndEq hc60)) (ro ?_)
      exact hJ10 ((a2.length : Int) == 0) _ _ ⟨_, at_, hI⟩ H

/-! ### local_found_look -/
theorem enter42 (a : Array Value) : Sem.pureRun Try.prog (callFunc 42 a) = some (.enter 42 a) := by kernel_rfl
theorem local_found_look_calls (b0z : Nat) (a0 : LocalFound) (A0z0 : Option Addr) (c0z0 : Nat) (A0z1 : Option Addr) (c0z1 : Nat) (a1 : History) (A1z0 : Option Addr) (c1z0 : Nat) (A1z1 : Option Addr) (c1z1 : Nat) (a2 : Int) (M : Mem) (w : World) (hI : Inv M w [.blk b0z 75 [vS A0z0 a0.asks.length c0z0, vS A0z1 a0.bad.length c0z1], .row kAsk 51 A0z0 a0.asks.length c0z0 a0.asks, .row kSpot 53 A0z1 a0.bad.length c0z1 a0.bad]) (hr1z0 : rdS tStr M.blk A1z0 a1.Keys) (hl1z0 : a1.Keys.length ≤ c1z0) (hr1z1 : rdS kTxn M.blk A1z1 a1.Txns) (hl1z1 : a1.Txns.length ≤ c1z1) (r : LocalFound) (H : local_found_look a0 a1 a2 = some r) :
    Calls Try.prog 42 #[vP b0z 0, .agg #[vS A1z0 a1.Keys.length c1z0, vS A1z1 a1.Txns.length c1z1], vI a2] w fun e w' => ∃ (A1197 : Option Addr), ∃ (c1198 : Nat), ∃ (A1199 : Option Addr), ∃ (c1200 : Nat), e = .returned (.tuple #[]) ∧ Inv M w' [.blk b0z 75 [vS A1197 r.asks.length c1198, vS A1199 r.bad.length c1200], .row kAsk 51 A1197 r.asks.length c1198 r.asks, .row kSpot 53 A1199 r.bad.length c1200 r.bad] := by
  refine cg Try.func42 ?_
  intro cs
  unfold local_found_look at H
  refine go_seq (r_in (oe 0 rfl ?_))
  refine e_box 40 _ (.agg #[vS A1z0 a1.Keys.length c1z0, vS A1z1 a1.Txns.length c1z1]) [vS A1z0 a1.Keys.length c1z0, vS A1z1 a1.Txns.length c1z1] rfl (by kernel_rfl) rfl hI ?_
  clear hI
  intro b2 _ hI
  refine ro (go_seq (go_seq (r_in ?_)))
  replace H := must_some H
  obtain ⟨g24, H⟩ := H
  obtain ⟨b28, q29, rfl, cs27, hk26, hg25⟩ := rdS.open hr1z1 rfl g24
  obtain ⟨_, _, rfl, rfl, ⟨_, _, rfl, rfl, ⟨_, _, rfl, rfl, ⟨_, _, rfl, rfl, ⟨A30, c31, rfl, hl33, hr32⟩⟩⟩⟩⟩ := hk26
  refine bx 0 [.p, .l 0 1, .p, .x, .p, .l 1 1, .p] (gB (hI.grp 3 rfl) (hI.lies hg25)) _ (bZ g24) (ro ?_)
  replace H := cond_some H
  rcases H with ⟨hc34, H⟩ | ⟨hc34, H⟩
  · refine gt hc34 ?_
    replace H := Option.some.inj H
    subst H
    exact gr Try.func42 ⟨A0z0, c0z0, A0z1, c0z1, rfl, hI.pick [0, 1, 2] (by decide) rfl⟩
  · refine ge hc34 (go_skip (go_seq (r_in (oe 0 rfl ?_))))
    refine e_makemapO Int (List Int) (fun x : Int => vI x) (tSlice 2 (tInt .i64)) 100 rfl hI ?_
    clear hI
    intro b36 _ hI
    refine bp 1 1 (ro (go_seq (r_in ?_)))
    obtain ⟨cs46, hk45, hg44⟩ := rdS.look hr1z1 rfl g24
    obtain ⟨_, _, rfl, rfl, ⟨_, _, rfl, rfl, ⟨_, _, rfl, rfl, ⟨_, _, rfl, rfl, ⟨A47, c48, rfl, hl50, hr49⟩⟩⟩⟩⟩ := hk45
    refine bx 0 [.p, .l 0 1, .p, .x, .p, .l 1 4, .p, .p] (gB (hI.grp 3 rfl) (hI.lies hg44)) _ (bZ g24) (ro (go_block ?_))
    refine go_iter (local_found_look.s1 a1 a2) (fun (l709, l712, m715, x716) f w => ∃ (j : Nat → Value) (A710 : Option Addr) (c711 : Nat) (A713 : Option Addr) (c714 : Nat), f = updL j [(0, vP b0z 0), (2, vI a2), (6, .map (some b36)), (25, vS A47 (((idx a1.Txns a2).Ops).length) c48), (26, vI (((idx a1.Txns a2).Ops).length : Int)), (27, vI x716)] ∧ Inv M w [.blk b0z 75 [vS A710 l709.length c711, vS A713 l712.length c714], .row kAsk 51 A710 l709.length c711 l709, .row kSpot 53 A713 l712.length c714 l712, mapO (fun x : Int => vI x) (tSlice 2 (tInt .i64)) b36 m715]) H ⟨_, A0z0, c0z0, A0z1, c0z1, at_, hI.pick [0, 1, 2, 4] (by decide) rfl⟩ ?_
    clear H hI
    rintro ⟨l709, l712, m715, x716⟩ _ _ o1 H ⟨_, A710, c711, A713, c714, rfl, hI⟩ hin1 hout1
    refine go_seq (rp 1 (go_seq ?_))
    replace H := cond_some H
    rcases H with ⟨hc718, H⟩ | ⟨hc718, H⟩
    · refine gt hc718 (go_skip (go_seq ?_))
      refine go_block_join (o := o1) (fun (l938, l941, m944) f w => ∃ (j : Nat → Value) (A939 : Option Addr) (c940 : Nat) (A942 : Option Addr) (c943 : Nat), f = updL j [(0, vP b0z 0), (2, vI a2), (6, .map (some b36)), (25, vS A47 (((idx a1.Txns a2).Ops).length) c48), (26, vI (((idx a1.Txns a2).Ops).length : Int)), (27, vI x716)] ∧ Inv M w [.blk b0z 75 [vS A939 l938.length c940, vS A942 l941.length c943], .row kAsk 51 A939 l938.length c940 l938, .row kSpot 53 A942 l941.length c943 l941, mapO (fun x : Int => vI x) (tSlice 2 (tInt .i64)) b36 m944]) (fun (l938, l941, m944) => local_found_look.j2 x716 l938 l941 m944) ?_ (fun hJ945 => ?_)
      · clear H hI
        rintro ⟨l938, l941, m944⟩ _ _ ⟨_, A939, c940, A942, c943, rfl, hI⟩ H
        refine rp 2 ?_
        exact hin1 _ (Option.some.inj H).symm _ _ ⟨_, A939, c940, A942, c943, at_, hI⟩
      · refine go_seq (r_in ?_)
        replace H := must_some H
        obtain ⟨g957, H⟩ := H
        obtain ⟨b961, q962, rfl, cs960, hk959, hg958⟩ := rdS.open hr49 rfl g957
        obtain ⟨_, _, rfl, rfl, ⟨_, _, rfl, rfl, ⟨_, _, rfl, rfl, ⟨_, _, rfl, rfl, ⟨A963, c964, rfl, hl966, hr965⟩⟩⟩⟩⟩ := hk959
        refine bx 0 [.p, .x, .l 0 0] (gA (hI.lies hg958)) _ (bZ g957) (oe 3 rfl ?_)
        refine e_alloc 63 (.agg #[vI 0, vI 0, vI 0, vB false, vS none 0 0]) [vI 0, vI 0, vI 0, vB false, vS none 0 0] rfl (by kernel_rfl) rfl hI ?_
        clear hI
        intro b967 _ hI
        refine bp 4 1 (oe 5 rfl ?_)
        refine e_store 63 _ _ 4 b967 63 [vI 0, vI 0, vI 0, vB false, vS none 0 0] [vI ((idx ((idx a1.Txns a2).Ops) x716).Kind), vI ((idx ((idx a1.Txns a2).Ops) x716).Key), vI ((idx ((idx a1.Txns a2).Ops) x716).Arg), vB ((idx ((idx a1.Txns a2).Ops) x716).Got), vS A963 (((idx ((idx a1.Txns a2).Ops) x716).Vals).length) c964] 0 (.agg #[vI ((idx ((idx a1.Txns a2).Ops) x716).Kind), vI ((idx ((idx a1.Txns a2).Ops) x716).Key), vI ((idx ((idx a1.Txns a2).Ops) x716).Arg), vB ((idx ((idx a1.Txns a2).Ops) x716).Got), vS A963 (((idx ((idx a1.Txns a2).Ops) x716).Vals).length) c964]) rfl (by kernel_rfl) (by kernel_rfl) (by kernel_rfl) (by kernel_rfl) hI rfl (by kernel_rfl) (by kernel_rfl) ?_
        clear hI
        intro _ hI
        refine ro (go_seq (go_seq (rg [.p, .l 0 0, .p] (gA (hI.grp 4 rfl)) ?_)))
        replace H := cond_some H
        rcases H with ⟨hc1015, H⟩ | ⟨hc1015, H⟩
        · refine gt hc1015 (go_seq ?_)
          replace H := must_some H
          obtain ⟨g1069, H⟩ := H
          refine go_held (fun w => Inv M w [.blk b0z 75 [vS A710 l709.length c711, vS A713 l712.length c714], .row kAsk 51 A710 l709.length c711 l709, .row kSpot 53 A713 l712.length c714 l712, .blk b967 63 [vI ((idx ((idx a1.Txns a2).Ops) x716).Kind), vI ((idx ((idx a1.Txns a2).Ops) x716).Key), vI ((idx ((idx a1.Txns a2).Ops) x716).Arg), vB ((idx ((idx a1.Txns a2).Ops) x716).Got), vS A963 (((idx ((idx a1.Txns a2).Ops) x716).Vals).length) c964]]) (by kernel_rfl) ?_
          replace hI := hI.drew'
          refine hg (n := 4) [(0, .p), (1, .p), (2, .l 0 1), (3, .p), (4, .p), (5, .l 0 1), (7, .p), (8, .l 0 2)] (fun _ hS => (gA (hS.grp 3 rfl))) (hI.pk [0, 1, 2, 4]) ?_
          refine held_each (n := 3) [6, 9] (by simp) (by kernel_rfl) ⟨⟨_, rfl, by kernel_rfl, ?_⟩, ⟨_, rfl, by kernel_rfl, ?_⟩, trivial⟩
          · refine (e_lookupO (ek := (fun x : Int => vI x)) (kt := (tInt .i64)) (e := 2) 100 3 22 _ _ false 3 b36 m715 ((idx ((idx a1.Txns a2).Ops) x716).Key) rfl (by kernel_rfl) (key_int (by kernel_rfl)) (fun _ => by kernel_rfl) (by kernel_rfl) (by kernel_rfl) hI rfl ?_)
            intro A1079 c1080 hr1081 hl1082 hat1083
            replace hI := hI.pin 3 rfl hat1083
            refine ⟨(hI.pk [0, 1, 2, 4]), ?_⟩
            refine ho (n := 2) 9 rfl (e_partsS 22 2 1 _ _ _ #[vI ((idx ((idx a1.Txns a2).Ops) x716).Arg)] [vI ((idx ((idx a1.Txns a2).Ops) x716).Arg)] rfl rfl rfl rfl (by kernel_rfl) (by kernel_rfl) (by kernel_rfl) (by kernel_rfl) hI ?_)
            clear hI
            intro b1086 _ hs1087 hI
            refine ⟨(hI.pk [0, 1, 2, 4]), ?_⟩
            replace hI := hI.takeP 3 rfl
            refine ho (n := 1) 10 rfl (e_append (tInt .i64) 22 0 2 _ _ _ _ A1079 ((mat m715 ((idx ((idx a1.Txns a2).Ops) x716).Key)).length) c1080 (mat m715 ((idx ((idx a1.Txns a2).Ops) x716).Key)) ([(idx ((idx a1.Txns a2).Ops) x716).Arg] : List Int) b1086 0 1 1 [vI ((idx ((idx a1.Txns a2).Ops) x716).Arg)] 0 [] [1, 2, 3, 4, 5, 6] [] [.blk b0z 75 [vS A710 l709.length c711, vS A713 l712.length c714], .row kAsk 51 A710 l709.length c711 l709, .row kSpot 53 A713 l712.length c714 l712, mapO (fun x : Int => vI x) (tOpt (tSlice 2 (tInt .i64))) b36 (mhole m715 ((idx ((idx a1.Txns a2).Ops) x716).Key) [vS A1079 (mat m715 ((idx ((idx a1.Txns a2).Ops) x716).Key)).length c1080]), .blk b967 63 [vI ((idx ((idx a1.Txns a2).Ops) x716).Kind), vI ((idx ((idx a1.Txns a2).Ops) x716).Key), vI ((idx ((idx a1.Txns a2).Ops) x716).Arg), vB ((idx ((idx a1.Txns a2).Ops) x716).Got), vS A963 (((idx ((idx a1.Txns a2).Ops) x716).Vals).length) c964], .blk b1086 2 [vI ((idx ((idx a1.Txns a2).Ops) x716).Arg)]] rfl (by kernel_rfl) (by kernel_rfl) rfl rfl rfl rfl rfl (by kernel_rfl) hI (by decide) rfl rfl rfl (hI.grp 6 rfl) g1069 (mks_cons (mk_flat (k := (tInt .i64)) ((idx ((idx a1.Txns a2).Ops) x716).Arg) [vI ((idx ((idx a1.Txns a2).Ops) x716).Arg)] rfl) mks_nil) ?_)
            clear hI
            intro A1090 c1091 _ hI
            replace hI := hI.pick (L' := [.row (tInt .i64) 2 A1090 (((mat m715 ((idx ((idx a1.Txns a2).Ops) x716).Key)) ++ ([(idx ((idx a1.Txns a2).Ops) x716).Arg] : List Int)).length) c1091 ((mat m715 ((idx ((idx a1.Txns a2).Ops) x716).Key)) ++ ([(idx ((idx a1.Txns a2).Ops) x716).Arg] : List Int)), .blk b0z 75 [vS A710 l709.length c711, vS A713 l712.length c714], .row kAsk 51 A710 l709.length c711 l709, .row kSpot 53 A713 l712.length c714 l712, mapO (fun x : Int => vI x) (tOpt (tSlice 2 (tInt .i64))) b36 (mhole m715 ((idx ((idx a1.Txns a2).Ops) x716).Key) [vS A1079 (mat m715 ((idx ((idx a1.Txns a2).Ops) x716).Key)).length c1080]), .blk b967 63 [vI ((idx ((idx a1.Txns a2).Ops) x716).Kind), vI ((idx ((idx a1.Txns a2).Ops) x716).Key), vI ((idx ((idx a1.Txns a2).Ops) x716).Arg), vB ((idx ((idx a1.Txns a2).Ops) x716).Got), vS A963 (((idx ((idx a1.Txns a2).Ops) x716).Vals).length) c964]]) [0, 1, 2, 3, 4, 5] (by decide) rfl
            refine ⟨(hI.pk [1, 2, 3, 5]), ?_⟩
            refine ho (n := 0) 11 rfl (e_mapputO (kv := tOpt (tSlice 2 (tInt .i64))) (ek := (fun x : Int => vI x)) 100 3 22 _ _ _ 4 [0] [1, 2, 3, 5] [.row (tInt .i64) 2 A1090 (((mat m715 ((idx ((idx a1.Txns a2).Ops) x716).Key)) ++ ([(idx ((idx a1.Txns a2).Ops) x716).Arg] : List Int)).length) c1091 ((mat m715 ((idx ((idx a1.Txns a2).Ops) x716).Key)) ++ ([(idx ((idx a1.Txns a2).Ops) x716).Arg] : List Int))] [.blk b0z 75 [vS A710 l709.length c711, vS A713 l712.length c714], .row kAsk 51 A710 l709.length c711 l709, .row kSpot 53 A713 l712.length c714 l712, .blk b967 63 [vI ((idx ((idx a1.Txns a2).Ops) x716).Kind), vI ((idx ((idx a1.Txns a2).Ops) x716).Key), vI ((idx ((idx a1.Txns a2).Ops) x716).Arg), vB ((idx ((idx a1.Txns a2).Ops) x716).Got), vS A963 (((idx ((idx a1.Txns a2).Ops) x716).Vals).length) c964]] b36 (mhole m715 ((idx ((idx a1.Txns a2).Ops) x716).Key) [vS A1079 (mat m715 ((idx ((idx a1.Txns a2).Ops) x716).Key)).length c1080]) ((idx ((idx a1.Txns a2).Ops) x716).Key) (Sum.inl ((mat m715 ((idx ((idx a1.Txns a2).Ops) x716).Key)) ++ ([(idx ((idx a1.Txns a2).Ops) x716).Arg] : List Int))) (vS A1090 (((mat m715 ((idx ((idx a1.Txns a2).Ops) x716).Key)) ++ ([(idx ((idx a1.Txns a2).Ops) x716).Arg] : List Int)).length) c1091) rfl (by kernel_rfl) (key_int (by kernel_rfl)) (by kernel_rfl) (by kernel_rfl) (by kernel_rfl) rfl hI (by decide) rfl mk_row ?_)
            clear hI
            intro _ hI
            replace hI := hI.mapback 0 (mput m715 ((idx ((idx a1.Txns a2).Ops) x716).Key) ((mat m715 ((idx ((idx a1.Txns a2).Ops) x716).Key)) ++ ([(idx ((idx a1.Txns a2).Ops) x716).Arg] : List Int))) rfl mhole_put
            refine ⟨(hI.pk [1, 2, 3, 4]), ?_⟩
            refine hd ?_
            refine go_exit rfl ?_
            exact hJ945 (l709, l712, mput m715 ((idx ((idx a1.Txns a2).Ops) x716).Key) ((mat m715 ((idx ((idx a1.Txns a2).Ops) x716).Key)) ++ ([(idx ((idx a1.Txns a2).Ops) x716).Arg] : List Int))) _ _ ⟨_, A710, c711, A713, c714, at_, hI.pick [1, 2, 3, 0] (by decide) rfl⟩ H
          · refine (e_partsS 22 2 1 _ _ _ #[vI ((idx ((idx a1.Txns a2).Ops) x716).Arg)] [vI ((idx ((idx a1.Txns a2).Ops) x716).Arg)] rfl rfl rfl rfl (by kernel_rfl) (by kernel_rfl) (by kernel_rfl) (by kernel_rfl) hI ?_)
            clear hI
            intro b1092 _ hs1093 hI
            refine ⟨(hI.pk [0, 1, 2, 4]), ?_⟩
            refine ho (n := 2) 6 rfl (e_lookupO (ek := (fun x : Int => vI x)) (kt := (tInt .i64)) (e := 2) 100 3 22 _ _ false 3 b36 m715 ((idx ((idx a1.Txns a2).Ops) x716).Key) rfl (by kernel_rfl) (key_int (by kernel_rfl)) (fun _ => by kernel_rfl) (by kernel_rfl) (by kernel_rfl) hI rfl ?_)
            intro A1099 c1100 hr1101 hl1102 hat1103
            replace hI := hI.pin 3 rfl hat1103
            refine ⟨(hI.pk [0, 1, 2, 4]), ?_⟩
            replace hI := hI.takeP 3 rfl
            refine ho (n := 1) 10 rfl (e_append (tInt .i64) 22 0 2 _ _ _ _ A1099 ((mat m715 ((idx ((idx a1.Txns a2).Ops) x716).Key)).length) c1100 (mat m715 ((idx ((idx a1.Txns a2).Ops) x716).Key)) ([(idx ((idx a1.Txns a2).Ops) x716).Arg] : List Int) b1092 0 1 1 [vI ((idx ((idx a1.Txns a2).Ops) x716).Arg)] 0 [] [1, 2, 3, 4, 5, 6] [] [.blk b0z 75 [vS A710 l709.length c711, vS A713 l712.length c714], .row kAsk 51 A710 l709.length c711 l709, .row kSpot 53 A713 l712.length c714 l712, mapO (fun x : Int => vI x) (tOpt (tSlice 2 (tInt .i64))) b36 (mhole m715 ((idx ((idx a1.Txns a2).Ops) x716).Key) [vS A1099 (mat m715 ((idx ((idx a1.Txns a2).Ops) x716).Key)).length c1100]), .blk b967 63 [vI ((idx ((idx a1.Txns a2).Ops) x716).Kind), vI ((idx ((idx a1.Txns a2).Ops) x716).Key), vI ((idx ((idx a1.Txns a2).Ops) x716).Arg), vB ((idx ((idx a1.Txns a2).Ops) x716).Got), vS A963 (((idx ((idx a1.Txns a2).Ops) x716).Vals).length) c964], .blk b1092 2 [vI ((idx ((idx a1.Txns a2).Ops) x716).Arg)]] rfl (by kernel_rfl) (by kernel_rfl) rfl rfl rfl rfl rfl (by kernel_rfl) hI (by decide) rfl rfl rfl (hI.grp 6 rfl) g1069 (mks_cons (mk_flat (k := (tInt .i64)) ((idx ((idx a1.Txns a2).Ops) x716).Arg) [vI ((idx ((idx a1.Txns a2).Ops) x716).Arg)] rfl) mks_nil) ?_)
            clear hI
            intro A1106 c1107 _ hI
            replace hI := hI.pick (L' := [.row (tInt .i64) 2 A1106 (((mat m715 ((idx ((idx a1.Txns a2).Ops) x716).Key)) ++ ([(idx ((idx a1.Txns a2).Ops) x716).Arg] : List Int)).length) c1107 ((mat m715 ((idx ((idx a1.Txns a2).Ops) x716).Key)) ++ ([(idx ((idx a1.Txns a2).Ops) x716).Arg] : List Int)), .blk b0z 75 [vS A710 l709.length c711, vS A713 l712.length c714], .row kAsk 51 A710 l709.length c711 l709, .row kSpot 53 A713 l712.length c714 l712, mapO (fun x : Int => vI x) (tOpt (tSlice 2 (tInt .i64))) b36 (mhole m715 ((idx ((idx a1.Txns a2).Ops) x716).Key) [vS A1099 (mat m715 ((idx ((idx a1.Txns a2).Ops) x716).Key)).length c1100]), .blk b967 63 [vI ((idx ((idx a1.Txns a2).Ops) x716).Kind), vI ((idx ((idx a1.Txns a2).Ops) x716).Key), vI ((idx ((idx a1.Txns a2).Ops) x716).Arg), vB ((idx ((idx a1.Txns a2).Ops) x716).Got), vS A963 (((idx ((idx a1.Txns a2).Ops) x716).Vals).length) c964]]) [0, 1, 2, 3, 4, 5] (by decide) rfl
            refine ⟨(hI.pk [1, 2, 3, 5]), ?_⟩
            refine ho (n := 0) 11 rfl (e_mapputO (kv := tOpt (tSlice 2 (tInt .i64))) (ek := (fun x : Int => vI x)) 100 3 22 _ _ _ 4 [0] [1, 2, 3, 5] [.row (tInt .i64) 2 A1106 (((mat m715 ((idx ((idx a1.Txns a2).Ops) x716).Key)) ++ ([(idx ((idx a1.Txns a2).Ops) x716).Arg] : List Int)).length) c1107 ((mat m715 ((idx ((idx a1.Txns a2).Ops) x716).Key)) ++ ([(idx ((idx a1.Txns a2).Ops) x716).Arg] : List Int))] [.blk b0z 75 [vS A710 l709.length c711, vS A713 l712.length c714], .row kAsk 51 A710 l709.length c711 l709, .row kSpot 53 A713 l712.length c714 l712, .blk b967 63 [vI ((idx ((idx a1.Txns a2).Ops) x716).Kind), vI ((idx ((idx a1.Txns a2).Ops) x716).Key), vI ((idx ((idx a1.Txns a2).Ops) x716).Arg), vB ((idx ((idx a1.Txns a2).Ops) x716).Got), vS A963 (((idx ((idx a1.Txns a2).Ops) x716).Vals).length) c964]] b36 (mhole m715 ((idx ((idx a1.Txns a2).Ops) x716).Key) [vS A1099 (mat m715 ((idx ((idx a1.Txns a2).Ops) x716).Key)).length c1100]) ((idx ((idx a1.Txns a2).Ops) x716).Key) (Sum.inl ((mat m715 ((idx ((idx a1.Txns a2).Ops) x716).Key)) ++ ([(idx ((idx a1.Txns a2).Ops) x716).Arg] : List Int))) (vS A1106 (((mat m715 ((idx ((idx a1.Txns a2).Ops) x716).Key)) ++ ([(idx ((idx a1.Txns a2).Ops) x716).Arg] : List Int)).length) c1107) rfl (by kernel_rfl) (key_int (by kernel_rfl)) (by kernel_rfl) (by kernel_rfl) (by kernel_rfl) rfl hI (by decide) rfl mk_row ?_)
            clear hI
            intro _ hI
            replace hI := hI.mapback 0 (mput m715 ((idx ((idx a1.Txns a2).Ops) x716).Key) ((mat m715 ((idx ((idx a1.Txns a2).Ops) x716).Key)) ++ ([(idx ((idx a1.Txns a2).Ops) x716).Arg] : List Int))) rfl mhole_put
            refine ⟨(hI.pk [1, 2, 3, 4]), ?_⟩
            refine hd ?_
            refine go_exit rfl ?_
            exact hJ945 (l709, l712, mput m715 ((idx ((idx a1.Txns a2).Ops) x716).Key) ((mat m715 ((idx ((idx a1.Txns a2).Ops) x716).Key)) ++ ([(idx ((idx a1.Txns a2).Ops) x716).Arg] : List Int))) _ _ ⟨_, A710, c711, A713, c714, at_, hI.pick [1, 2, 3, 0] (by decide) rfl⟩ H
        · refine ge hc1015 (go_skip (go_seq (r_in (bg 0 [.p, .l 0 4] (gA (hI.grp 4 rfl)) ?_))))
          replace H := bind_some H
          obtain ⟨y1112, hy1113, H⟩ := H
          refine oe 2 rfl ?_
          refine ec (enter52 _) (slices_Clone_int64zcalls A963 c964 ((idx ((idx a1.Txns a2).Ops) x716).Vals) (memOf _) _ (Inv.start _) (hI.rd hr965) hl966 _ hy1113) ?_
          rintro _ _ ⟨A1114, c1115, rfl, hI'⟩
          replace hI := hI.call0 hI'
          clear hI'
          refine ⟨_, rfl, ?_⟩
          refine bp 3 2 (ro ?_)
          refine go_seq_join (o := o1) (fun (l1129, b1132) f w => ∃ (j : Nat → Value) (A1130 : Option Addr) (c1131 : Nat), f = updL j [(0, vP b0z 0), (2, vI a2), (6, .map (some b36)), (7, vI x716), (8, vP b967 0), (9, vS A1130 l1129.length c1131), (10, vB b1132), (25, vS (some ⟨b961, q962, none⟩) (((idx a1.Txns a2).Ops).length) c48), (26, vI (((idx a1.Txns a2).Ops).length : Int)), (27, vI x716)] ∧ Inv M w [.blk b0z 75 [vS A710 l709.length c711, vS A713 l712.length c714], .row kAsk 51 A710 l709.length c711 l709, .row kSpot 53 A713 l712.length c714 l712, mapO (fun x : Int => vI x) (tSlice 2 (tInt .i64)) b36 m715, .blk b967 63 [vI ((idx ((idx a1.Txns a2).Ops) x716).Kind), vI ((idx ((idx a1.Txns a2).Ops) x716).Key), vI ((idx ((idx a1.Txns a2).Ops) x716).Arg), vB ((idx ((idx a1.Txns a2).Ops) x716).Got), vS A963 (((idx ((idx a1.Txns a2).Ops) x716).Vals).length) c964], .row (tInt .i64) 2 A1130 l1129.length c1131 l1129]) (fun (l1129, b1132) => local_found_look.j3 a1 a2 l709 l712 m715 x716 l1129 b1132) ?_ (fun hJ1133 => ?_)
          · clear H hI
            rintro ⟨l1129, b1132⟩ _ _ ⟨_, A1130, c1131, rfl, hI⟩ H
            refine go_seq (go_seq (rp 2 ?_))
            replace H := cond_some H
            rcases H with ⟨hc1140, H⟩ | ⟨hc1140, H⟩
            · refine gt hc1140 (go_seq (r_in (bg 0 [.p, .p, .p, .p, .l 0 1, .p, .p, .p] (gA (hI.grp 0 rfl)) (oe 8 rfl ?_))))
              refine e_partsS 43 53 1 _ _ _ #[vI a2, vI x716] [vI a2, vI x716] rfl rfl rfl rfl (by kernel_rfl) (by kernel_rfl) (by kernel_rfl) (by kernel_rfl) hI ?_
              clear hI
              intro b1146 _ hs1147 hI
              replace H := must_some H
              obtain ⟨g1148, H⟩ := H
              refine oe 9 rfl ?_
              refine e_append kSpot 43 0 53 _ _ _ _ A713 l712.length c714 l712 ([(⟨a2, x716⟩ : Spot)] : List Spot) b1146 0 1 1 [vI a2, vI x716] 2 [] [0, 1, 3, 4, 5, 6] [] [.blk b0z 75 [vS A710 l709.length c711, vS A713 l712.length c714], .row kAsk 51 A710 l709.length c711 l709, mapO (fun x : Int => vI x) (tSlice 2 (tInt .i64)) b36 m715, .blk b967 63 [vI ((idx ((idx a1.Txns a2).Ops) x716).Kind), vI ((idx ((idx a1.Txns a2).Ops) x716).Key), vI ((idx ((idx a1.Txns a2).Ops) x716).Arg), vB ((idx ((idx a1.Txns a2).Ops) x716).Got), vS A963 (((idx ((idx a1.Txns a2).Ops) x716).Vals).length) c964], .row (tInt .i64) 2 A1130 l1129.length c1131 l1129, .blk b1146 53 [vI a2, vI x716]] rfl (by kernel_rfl) (by kernel_rfl) rfl rfl rfl rfl rfl (by kernel_rfl) hI (by decide) rfl rfl rfl (hI.grp 6 rfl) g1148 (mks_cons (mk_flat (k := kSpot) (⟨a2, x716⟩ : Spot) [vI a2, vI x716] rfl) mks_nil) ?_
              clear hI
              intro A1149 c1150 _ hI
              replace hI := hI.pick (L' := [.row kSpot 53 A1149 ((l712 ++ ([(⟨a2, x716⟩ : Spot)] : List Spot)).length) c1150 (l712 ++ ([(⟨a2, x716⟩ : Spot)] : List Spot)), .blk b0z 75 [vS A710 l709.length c711, vS A713 l712.length c714], .row kAsk 51 A710 l709.length c711 l709, mapO (fun x : Int => vI x) (tSlice 2 (tInt .i64)) b36 m715, .blk b967 63 [vI ((idx ((idx a1.Txns a2).Ops) x716).Kind), vI ((idx ((idx a1.Txns a2).Ops) x716).Key), vI ((idx ((idx a1.Txns a2).Ops) x716).Arg), vB ((idx ((idx a1.Txns a2).Ops) x716).Got), vS A963 (((idx ((idx a1.Txns a2).Ops) x716).Vals).length) c964], .row (tInt .i64) 2 A1130 l1129.length c1131 l1129]) [0, 1, 2, 3, 4, 5] (by decide) rfl
              refine bp 10 2 (oe 12 rfl ?_)
              refine e_store 43 _ _ 1 b0z 75 [vS A710 l709.length c711, vS A713 l712.length c714] [vS A710 l709.length c711, vS A1149 ((l712 ++ ([(⟨a2, x716⟩ : Spot)] : List Spot)).length) c1150] 1 (vS A1149 ((l712 ++ ([(⟨a2, x716⟩ : Spot)] : List Spot)).length) c1150) rfl (by kernel_rfl) (by kernel_rfl) (by kernel_rfl) (by kernel_rfl) hI rfl (by kernel_rfl) (by kernel_rfl) ?_
              clear hI
              intro _ hI
              refine ro ?_
              refine go_exit rfl ?_
              exact hJ945 (l709, l712 ++ ([(⟨a2, x716⟩ : Spot)] : List Spot), m715) _ _ ⟨_, A710, c711, A1149, c1150, at_, hI.pick [1, 2, 0, 3] (by decide) rfl⟩ H
            · refine ge hc1140 (go_skip ?_)
              replace H := must_some H
              obtain ⟨g1153, H⟩ := H
              refine go_held (fun w => Inv M w [.row kSpot 53 A713 l712.length c714 l712, mapO (fun x : Int => vI x) (tSlice 2 (tInt .i64)) b36 m715, .blk b967 63 [vI ((idx ((idx a1.Txns a2).Ops) x716).Kind), vI ((idx ((idx a1.Txns a2).Ops) x716).Key), vI ((idx ((idx a1.Txns a2).Ops) x716).Arg), vB ((idx ((idx a1.Txns a2).Ops) x716).Got), vS A963 (((idx ((idx a1.Txns a2).Ops) x716).Vals).length) c964]]) (by kernel_rfl) ?_
              replace hI := hI.drew'
              refine hg (n := 6) [(0, .p), (1, .p), (2, .p), (3, .p), (5, .p), (6, .p), (7, .p), (8, .l 0 1), (9, .p), (10, .p)] (fun _ hS => (gA (hS.grp 2 rfl))) (hI.pk [2, 3, 4]) ?_
              refine held_each (n := 5) [4, 11] (by simp) (by kernel_rfl) ⟨⟨_, rfl, by kernel_rfl, ?_⟩, ⟨_, rfl, by kernel_rfl, ?_⟩, trivial⟩
              · refine (e_read (ops := #[]) [(b0z, 0, [vS A710 l709.length c711, vS A713 l712.length c714])] (.l 0 0) (vS A710 l709.length c711) [] ⟨(hI.grp 0 rfl), trivial⟩ trivial (by kernel_rfl) (by kernel_rfl) (by kernel_rfl) ⟨(hI.pk [2, 3, 4]), ?_⟩)
                refine ho (n := 4) 11 rfl (e_partsS 42 51 1 _ _ _ #[vI a2, vI x716, vI ((idx ((idx a1.Txns a2).Ops) x716).Key), vS A1130 l1129.length c1131] [vI a2, vI x716, vI ((idx ((idx a1.Txns a2).Ops) x716).Key), vS A1130 l1129.length c1131] rfl rfl rfl rfl (by kernel_rfl) (by kernel_rfl) (by kernel_rfl) (by kernel_rfl) hI ?_)
                clear hI
                intro b1160 _ hs1161 hI
                refine ⟨(hI.pk [2, 3, 4]), ?_⟩
                refine ho (n := 3) 12 rfl (e_append kAsk 42 0 51 _ _ _ _ A710 l709.length c711 l709 ([(⟨a2, x716, (idx ((idx a1.Txns a2).Ops) x716).Key, l1129⟩ : Ask)] : List Ask) b1160 0 1 1 [vI a2, vI x716, vI ((idx ((idx a1.Txns a2).Ops) x716).Key), vS A1130 l1129.length c1131] 1 [5] [0, 2, 3, 4, 6] [.row (tInt .i64) 2 A1130 l1129.length c1131 l1129] [.blk b0z 75 [vS A710 l709.length c711, vS A713 l712.length c714], .row kSpot 53 A713 l712.length c714 l712, mapO (fun x : Int => vI x) (tSlice 2 (tInt .i64)) b36 m715, .blk b967 63 [vI ((idx ((idx a1.Txns a2).Ops) x716).Kind), vI ((idx ((idx a1.Txns a2).Ops) x716).Key), vI ((idx ((idx a1.Txns a2).Ops) x716).Arg), vB ((idx ((idx a1.Txns a2).Ops) x716).Got), vS A963 (((idx ((idx a1.Txns a2).Ops) x716).Vals).length) c964], .blk b1160 51 [vI a2, vI x716, vI ((idx ((idx a1.Txns a2).Ops) x716).Key), vS A1130 l1129.length c1131]] rfl (by kernel_rfl) (by kernel_rfl) rfl rfl rfl rfl rfl (by kernel_rfl) hI (by decide) rfl rfl rfl (hI.grp 6 rfl) g1153 (mks_cons (mk_iso (g := fun g : Ask => (g.Txn, g.Place, g.Key, g.Base)) (x := (⟨a2, x716, (idx ((idx a1.Txns a2).Ops) x716).Key, l1129⟩ : Ask)) (mk_pair (mk_flat (k := (tInt .i64)) a2 [vI a2] rfl) (mk_pair (mk_flat (k := (tInt .i64)) x716 [vI x716] rfl) (mk_pair (mk_flat (k := (tInt .i64)) ((idx ((idx a1.Txns a2).Ops) x716).Key) [vI ((idx ((idx a1.Txns a2).Ops) x716).Key)] rfl) mk_row)))) mks_nil) ?_)
                clear hI
                intro A1164 c1165 _ hI
                replace hI := hI.pick (L' := [.row kAsk 51 A1164 ((l709 ++ ([(⟨a2, x716, (idx ((idx a1.Txns a2).Ops) x716).Key, l1129⟩ : Ask)] : List Ask)).length) c1165 (l709 ++ ([(⟨a2, x716, (idx ((idx a1.Txns a2).Ops) x716).Key, l1129⟩ : Ask)] : List Ask)), .blk b0z 75 [vS A710 l709.length c711, vS A713 l712.length c714], .row kSpot 53 A713 l712.length c714 l712, mapO (fun x : Int => vI x) (tSlice 2 (tInt .i64)) b36 m715, .blk b967 63 [vI ((idx ((idx a1.Txns a2).Ops) x716).Kind), vI ((idx ((idx a1.Txns a2).Ops) x716).Key), vI ((idx ((idx a1.Txns a2).Ops) x716).Arg), vB ((idx ((idx a1.Txns a2).Ops) x716).Got), vS A963 (((idx ((idx a1.Txns a2).Ops) x716).Vals).length) c964]]) [0, 1, 2, 3, 4] (by decide) rfl
                refine ⟨(hI.pk [2, 3, 4]), ?_⟩
                refine hg (n := 1) [(13, .p), (14, .p)] (fun _ hS => gO) (hI.pk [2, 3, 4]) ?_
                refine ho (n := 0) 15 rfl (e_store 42 _ _ 1 b0z 75 [vS A710 l709.length c711, vS A713 l712.length c714] [vS A1164 ((l709 ++ ([(⟨a2, x716, (idx ((idx a1.Txns a2).Ops) x716).Key, l1129⟩ : Ask)] : List Ask)).length) c1165, vS A713 l712.length c714] 0 (vS A1164 ((l709 ++ ([(⟨a2, x716, (idx ((idx a1.Txns a2).Ops) x716).Key, l1129⟩ : Ask)] : List Ask)).length) c1165) rfl (by kernel_rfl) (by kernel_rfl) (by kernel_rfl) (by kernel_rfl) hI rfl (by kernel_rfl) (by kernel_rfl) ?_)
                clear hI
                intro _ hI
                refine ⟨(hI.pk [2, 3, 4]), ?_⟩
                refine hd (go_inBlock ?_)
                exact hJ945 (l709 ++ ([(⟨a2, x716, (idx ((idx a1.Txns a2).Ops) x716).Key, l1129⟩ : Ask)] : List Ask), l712, m715) _ _ ⟨_, A1164, c1165, A713, c714, at_, hI.pick [1, 0, 2, 3] (by decide) rfl⟩ H
              · refine (e_partsS 42 51 1 _ _ _ #[vI a2, vI x716, vI ((idx ((idx a1.Txns a2).Ops) x716).Key), vS A1130 l1129.length c1131] [vI a2, vI x716, vI ((idx ((idx a1.Txns a2).Ops) x716).Key), vS A1130 l1129.length c1131] rfl rfl rfl rfl (by kernel_rfl) (by kernel_rfl) (by kernel_rfl) (by kernel_rfl) hI ?_)
                clear hI
                intro b1166 _ hs1167 hI
                refine ⟨(hI.pk [2, 3, 4]), ?_⟩
                refine ho (n := 4) 4 rfl (e_read (ops := #[]) [(b0z, 0, [vS A710 l709.length c711, vS A713 l712.length c714])] (.l 0 0) (vS A710 l709.length c711) [] ⟨(hI.grp 0 rfl), trivial⟩ trivial (by kernel_rfl) (by kernel_rfl) (by kernel_rfl) ⟨(hI.pk [2, 3, 4]), ?_⟩)
                refine ho (n := 3) 12 rfl (e_append kAsk 42 0 51 _ _ _ _ A710 l709.length c711 l709 ([(⟨a2, x716, (idx ((idx a1.Txns a2).Ops) x716).Key, l1129⟩ : Ask)] : List Ask) b1166 0 1 1 [vI a2, vI x716, vI ((idx ((idx a1.Txns a2).Ops) x716).Key), vS A1130 l1129.length c1131] 1 [5] [0, 2, 3, 4, 6] [.row (tInt .i64) 2 A1130 l1129.length c1131 l1129] [.blk b0z 75 [vS A710 l709.length c711, vS A713 l712.length c714], .row kSpot 53 A713 l712.length c714 l712, mapO (fun x : Int => vI x) (tSlice 2 (tInt .i64)) b36 m715, .blk b967 63 [vI ((idx ((idx a1.Txns a2).Ops) x716).Kind), vI ((idx ((idx a1.Txns a2).Ops) x716).Key), vI ((idx ((idx a1.Txns a2).Ops) x716).Arg), vB ((idx ((idx a1.Txns a2).Ops) x716).Got), vS A963 (((idx ((idx a1.Txns a2).Ops) x716).Vals).length) c964], .blk b1166 51 [vI a2, vI x716, vI ((idx ((idx a1.Txns a2).Ops) x716).Key), vS A1130 l1129.length c1131]] rfl (by kernel_rfl) (by kernel_rfl) rfl rfl rfl rfl rfl (by kernel_rfl) hI (by decide) rfl rfl rfl (hI.grp 6 rfl) g1153 (mks_cons (mk_iso (g := fun g : Ask => (g.Txn, g.Place, g.Key, g.Base)) (x := (⟨a2, x716, (idx ((idx a1.Txns a2).Ops) x716).Key, l1129⟩ : Ask)) (mk_pair (mk_flat (k := (tInt .i64)) a2 [vI a2] rfl) (mk_pair (mk_flat (k := (tInt .i64)) x716 [vI x716] rfl) (mk_pair (mk_flat (k := (tInt .i64)) ((idx ((idx a1.Txns a2).Ops) x716).Key) [vI ((idx ((idx a1.Txns a2).Ops) x716).Key)] rfl) mk_row)))) mks_nil) ?_)
                clear hI
                intro A1170 c1171 _ hI
                replace hI := hI.pick (L' := [.row kAsk 51 A1170 ((l709 ++ ([(⟨a2, x716, (idx ((idx a1.Txns a2).Ops) x716).Key, l1129⟩ : Ask)] : List Ask)).length) c1171 (l709 ++ ([(⟨a2, x716, (idx ((idx a1.Txns a2).Ops) x716).Key, l1129⟩ : Ask)] : List Ask)), .blk b0z 75 [vS A710 l709.length c711, vS A713 l712.length c714], .row kSpot 53 A713 l712.length c714 l712, mapO (fun x : Int => vI x) (tSlice 2 (tInt .i64)) b36 m715, .blk b967 63 [vI ((idx ((idx a1.Txns a2).Ops) x716).Kind), vI ((idx ((idx a1.Txns a2).Ops) x716).Key), vI ((idx ((idx a1.Txns a2).Ops) x716).Arg), vB ((idx ((idx a1.Txns a2).Ops) x716).Got), vS A963 (((idx ((idx a1.Txns a2).Ops) x716).Vals).length) c964]]) [0, 1, 2, 3, 4] (by decide) rfl
                refine ⟨(hI.pk [2, 3, 4]), ?_⟩
                refine hg (n := 1) [(13, .p), (14, .p)] (fun _ hS => gO) (hI.pk [2, 3, 4]) ?_
                refine ho (n := 0) 15 rfl (e_store 42 _ _ 1 b0z 75 [vS A710 l709.length c711, vS A713 l712.length c714] [vS A1170 ((l709 ++ ([(⟨a2, x716, (idx ((idx a1.Txns a2).Ops) x716).Key, l1129⟩ : Ask)] : List Ask)).length) c1171, vS A713 l712.length c714] 0 (vS A1170 ((l709 ++ ([(⟨a2, x716, (idx ((idx a1.Txns a2).Ops) x716).Key, l1129⟩ : Ask)] : List Ask)).length) c1171) rfl (by kernel_rfl) (by kernel_rfl) (by kernel_rfl) (by kernel_rfl) hI rfl (by kernel_rfl) (by kernel_rfl) ?_)
                clear hI
                intro _ hI
                refine ⟨(hI.pk [2, 3, 4]), ?_⟩
                refine hd (go_inBlock ?_)
                exact hJ945 (l709 ++ ([(⟨a2, x716, (idx ((idx a1.Txns a2).Ops) x716).Key, l1129⟩ : Ask)] : List Ask), l712, m715) _ _ ⟨_, A1170, c1171, A713, c714, at_, hI.pick [1, 0, 2, 3] (by decide) rfl⟩ H
          · refine go_seq (r_in (bg 0 [.p, .p, .l 0 1] (gA (hI.grp 4 rfl)) (oe 3 rfl ?_)))
            refine e_lookupO (ek := (fun x : Int => vI x)) (kt := (tInt .i64)) (e := 2) 100 3 22 _ _ false 3 b36 m715 ((idx ((idx a1.Txns a2).Ops) x716).Key) rfl (by kernel_rfl) (key_int (by kernel_rfl)) (fun _ => by kernel_rfl) (by kernel_rfl) (by kernel_rfl) hI rfl ?_
            intro A1177 c1178 hr1179 hl1180 hat1181
            replace hI := hI.pin 3 rfl hat1181
            refine bp 4 1 (ro (go_seq (rp 3 ?_)))
            replace H := cond_some H
            rcases H with ⟨hc1182, H⟩ | ⟨hc1182, H⟩
            · refine gt hc1182 (go_seq (r_in (bg 0 [.p, .l 0 0, .p, .p, .l 0 4, .p] (gA (hI.grp 4 rfl)) ?_)))
              replace H := bind_some H
              obtain ⟨y1187, hy1188, H⟩ := H
              refine oe 6 rfl ?_
              refine ec (enter16 _) (state_Before_calls (w64 (((idx ((idx a1.Txns a2).Ops) x716).Kind) - 4)) A963 c964 ((idx ((idx a1.Txns a2).Ops) x716).Vals) A1177 c1178 (mat m715 ((idx ((idx a1.Txns a2).Ops) x716).Key)) (memOf _) _ (Inv.start _) (hI.rd hr965) hl966 (hI.pinrd 3 rfl) (hI.pinle 3 rfl) _ hy1188) ?_
              rintro _ _ ⟨A1189, c1190, rfl, hI'⟩
              replace hI := hI.call0 hI'
              clear hI'
              refine ⟨_, rfl, ?_⟩
              refine bp 7 5 (ro ?_)
              refine go_seq_join (o := o1) (fun b1192 f w => ∃ (j : Nat → Value), f = updL j [(0, vP b0z 0), (2, vI a2), (6, .map (some b36)), (7, vI x716), (8, vP b967 0), (9, vS A1189 y1187.1.length c1190), (10, vB y1187.2), (25, vS (some ⟨b961, q962, none⟩) (((idx a1.Txns a2).Ops).length) c48), (26, vI (((idx a1.Txns a2).Ops).length : Int)), (27, vI x716), (71, vB b1192)] ∧ Inv M w [.blk b0z 75 [vS A710 l709.length c711, vS A713 l712.length c714], .row kAsk 51 A710 l709.length c711 l709, .row kSpot 53 A713 l712.length c714 l712, mapPin (fun x : Int => vI x) (tInt .i64) 2 b36 m715 ((idx ((idx a1.Txns a2).Ops) x716).Key) A1177 c1178, .blk b967 63 [vI ((idx ((idx a1.Txns a2).Ops) x716).Kind), vI ((idx ((idx a1.Txns a2).Ops) x716).Key), vI ((idx ((idx a1.Txns a2).Ops) x716).Arg), vB ((idx ((idx a1.Txns a2).Ops) x716).Got), vS A963 (((idx ((idx a1.Txns a2).Ops) x716).Vals).length) c964], .row (tInt .i64) 2 A1189 y1187.1.length c1190 y1187.1]) (fun b1192 => local_found_look.j4 a1 a2 l709 l712 m715 x716 y1187 b1192) ?_ (fun hJ1193 => ?_)
              · clear H hI
                rintro b1192 _ _ ⟨_, rfl, hI⟩ H
                replace H := cond_some H
                rcases H with ⟨hc1194, H⟩ | ⟨hc1194, H⟩
                · refine gt hc1194 ?_
                  refine go_exit rfl ?_
                  replace hI := hI.unpin 3 rfl
                  exact hJ945 (l709, l712, m715) _ _ ⟨_, A710, c711, A713, c714, at_, hI.pick [0, 1, 2, 3] (by decide) rfl⟩ H
                · refine ge hc1194 (go_skip ?_)
                  replace hI := hI.unpin 3 rfl
                  exact hJ1133 (y1187.1, y1187.2) _ _ ⟨_, A1189, c1190, at_, hI⟩ H
              · refine r_in ?_
                replace H := cond_some H
                rcases H with ⟨hc1195, H⟩ | ⟨hc1195, H⟩
                · refine bx 0 [.p, .c true, .p, .l 0 0, .p, .p] (gA (hI.grp 4 rfl)) _ (bZ (bndEq hc1195)) (ro ?_)
                  exact hJ1193 ((idx ((idx a1.Txns a2).Ops) x716).Kind == 5) _ _ ⟨_, at_, hI.pick [0, 1, 2, 3, 4, 6] (by decide) rfl⟩ H
                · refine bx 0 [.p, .c false, .p, .p, .p, .p] gO _ (bZ (bndEq hc1195)) (ro ?_)
                  exact hJ1193 false _ _ ⟨_, at_, hI.pick [0, 1, 2, 3, 4, 6] (by decide) rfl⟩ H
            · refine ge hc1182 (go_skip ?_)
              replace hI := hI.unpin 3 rfl
              exact hJ1133 (y1112, true) _ _ ⟨_, A1114, c1115, at_, hI⟩ H
    · refine ge hc718 ?_
      refine go_exit rfl ?_
      replace H := out_some H
      obtain ⟨_, H, he1⟩ := H
      have he := (hout1 _ he1).symm
      subst he
      replace H := Option.some.inj H
      subst H
      exact go_finish (.tuple #[]) Try.func42 (by kernel_rfl) ⟨A710, c711, A713, c714, rfl, hI.pick [0, 1, 2] (by decide) rfl⟩

/-! ### local_Look -/
theorem enter28 (a : Array Value) : Sem.pureRun Try.prog (callFunc 28 a) = some (.enter 28 a) := by kernel_rfl
theorem local_Look_calls (a0 : History) (A0z0 : Option Addr) (c0z0 : Nat) (A0z1 : Option Addr) (c0z1 : Nat) (a1 : Int) (M : Mem) (w : World) (hI : Inv M w []) (hr0z0 : rdS tStr M.blk A0z0 a0.Keys) (hl0z0 : a0.Keys.length ≤ c0z0) (hr0z1 : rdS kTxn M.blk A0z1 a0.Txns) (hl0z1 : a0.Txns.length ≤ c0z1) (r : List Ask × List Spot × Int) (H : local_Look a0 a1 = some r) :
    Calls Try.prog 28 #[.agg #[vS A0z0 a0.Keys.length c0z0, vS A0z1 a0.Txns.length c0z1], vI a1] w fun e w' => ∃ (A45 : Option Addr), ∃ (c46 : Nat), ∃ (A47 : Option Addr), ∃ (c48 : Nat), e = .returned (.tuple #[vS A45 r.1.length c46, vS A47 r.2.1.length c48, vI r.2.2]) ∧ Inv M w' [.row kAsk 51 A45 r.1.length c46 r.1, .row kSpot 53 A47 r.2.1.length c48 r.2.1] := by
  refine cg Try.func28 ?_
  intro cs
  unfold local_Look at H
  refine go_seq (r_in (oe 0 rfl ?_))
  refine e_box 40 _ (.agg #[vS A0z0 a0.Keys.length c0z0, vS A0z1 a0.Txns.length c0z1]) [vS A0z0 a0.Keys.length c0z0, vS A0z1 a0.Txns.length c0z1] rfl (by kernel_rfl) rfl hI ?_
  clear hI
  intro b2 _ hI
  refine bp 1 3 (ro (go_seq (go_seq (r_in (bg 0 [.l 0 0] (gA (hI.grp 0 rfl)) ?_)))))
  replace H := bind_some H
  obtain ⟨y11, hy12, H⟩ := H
  refine oe 1 rfl ?_
  refine ec (enter41 _) (index_Check_calls a0 A0z0 c0z0 A0z1 c0z1 (memOf _) _ (Inv.start _) (hI.rd hr0z0) hl0z0 (hI.rd hr0z1) hl0z1 _ hy12) ?_
  rintro _ _ ⟨rfl, hI'⟩
  replace hI := hI.call0 hI'
  clear hI'
  refine ⟨_, rfl, ?_⟩
  refine bp 2 1 (ro ?_)
  refine go_seq_join (o := r) (fun b15 f w => ∃ (j : Nat → Value), f = updL j [(1, vI a1), (2, vP b2 0), (23, vB b15)] ∧ Inv M w [.blk b2 40 [vS A0z0 a0.Keys.length c0z0, vS A0z1 a0.Txns.length c0z1]]) (fun b15 => local_Look.j1 a0 a1 b15) ?_ (fun hJ16 => ?_)
  · clear H hI
    rintro b15 _ _ ⟨_, rfl, hI⟩ H
    replace H := cond_some H
    rcases H with ⟨hc17, H⟩ | ⟨hc17, H⟩
    · refine gt hc17 (go_seq (rp 3 ?_))
      replace H := Option.some.inj H
      subst H
      exact gr Try.func28 ⟨none, 0, none, 0, rfl, ((hI.nilrow kAsk 51).nilrow kSpot 53).pick [1, 2] (by decide) rfl⟩
    · refine ge hc17 (go_skip (go_seq (r_in (oe 0 rfl ?_))))
      refine e_alloc 75 (.agg #[vS none 0 0, vS none 0 0]) [vS none 0 0, vS none 0 0] rfl (by kernel_rfl) rfl hI ?_
      clear hI
      intro b19 _ hI
      refine ro (go_seq (r_in (bg 0 [.l 0 0, .p] (gA (hI.grp 0 rfl)) ?_)))
      replace H := bind_some H
      obtain ⟨y36, hy37, H⟩ := H
      replace hI := hI.nilrow kAsk 51
      replace hI := hI.nilrow kSpot 53
      obtain ⟨M31, hJ32, hs33, hro34, hback35⟩ := hI.call (R := [.blk b19 75 [vS none (([] : List Ask).length) 0, vS none (([] : List Spot).length) 0], .row kAsk 51 none (([] : List Ask).length) 0 ([] : List Ask), .row kSpot 53 none (([] : List Spot).length) 0 ([] : List Spot)]) (L0 := [.blk b2 40 [vS A0z0 a0.Keys.length c0z0, vS A0z1 a0.Txns.length c0z1]]) [1, 2, 3] [0] (by decide) rfl
      refine oe 2 rfl ?_
      refine ec (enter42 _) (local_found_look_calls b19 (⟨([] : List Ask), ([] : List Spot)⟩ : LocalFound) none 0 none 0 a0 A0z0 c0z0 A0z1 c0z1 a1 M31 _ hJ32 (rdS.mono hr0z0 hs33) hl0z0 (rdS.mono hr0z1 hs33) hl0z1 _ hy37) ?_
      rintro _ _ ⟨A38, c39, A40, c41, rfl, hI'⟩
      replace hI := hback35 _ _ hI'
      clear hI'
      refine ⟨_, rfl, ?_⟩
      refine ro (go_seq ?_)
      refine dg [.p, .l 0 0, .p, .l 0 1, .p, .p, .p] (gA (hI.grp 0 rfl)) hI ?_
      clear hI
      intro _ hI
      replace H := Option.some.inj H
      subst H
      exact gr Try.func28 ⟨A38, c39, A40, c41, rfl, hI.pick [1, 2] (by decide) rfl⟩
  · refine r_in ?_
    replace H := cond_some H
    rcases H with ⟨hc42, H⟩ | ⟨hc42, H⟩
    · refine bx 0 [.p, .p, .c true, .p, .p, .p, .p, .p, .p, .p, .p, .p, .p] gO _ (bZ (bndEq hc42)) (ro ?_)
      exact hJ16 true _ _ ⟨_, at_, hI⟩ H
    · replace H := cond_some H
      rcases H with ⟨hc43, H⟩ | ⟨hc43, H⟩
      · refine bx 0 [.p, .p, .c false, .p, .p, .p, .c true, .p, .p, .p, .p, .p, .p] gO _ (bC (bndEq hc42) (bZ (bndEq hc43))) (ro ?_)
        exact hJ16 true _ _ ⟨_, at_, hI⟩ H
      · refine bx 0 [.p, .p, .c false, .p, .p, .p, .c false, .p, .p, .l 0 1, .p, .p, .p] (gA (hI.grp 0 rfl)) _ (bC (bndEq hc42) (bZ (bndEq hc43))) (ro ?_)
        exact hJ16 (decide (a1 ≥ (a0.Txns.length : Int))) _ _ ⟨_, at_, hI⟩ H

/-! ### assizelaw09zalive -/
theorem enter26 (a : Array Value) : Sem.pureRun Try.prog (callFunc 26 a) = some (.enter 26 a) := by kernel_rfl
theorem assizelaw09zalive_calls  (M : Mem) (w : World) (hI : Inv M w []) (r : Bool) (H : assizelaw09zalive = some r) :
    Calls Try.prog 26 #[] w fun e w' => e = .returned (vB r) ∧ Inv M w' [] := by
  refine cg Try.func26 ?_
  intro cs
  unfold assizelaw09zalive at H
  refine go_seq (rp 1 (go_seq (r_in (oe 0 rfl ?_))))
  refine e_partsS 37 9 1 _ _ _ #[.string (⟨#[108]⟩ : ByteArray)] [.string (⟨#[108]⟩ : ByteArray)] rfl rfl rfl rfl (by kernel_rfl) (by kernel_rfl) (by kernel_rfl) (by kernel_rfl) hI ?_
  clear hI
  intro b12 _ hs13 hI
  replace hI := hI.asrow (k := tStr) (xs := ([(⟨#[108]⟩ : ByteArray)] : List ByteArray)) (cs := [.string (⟨#[108]⟩ : ByteArray)]) (R := []) (L' := []) 1 0 [] [] (by decide) rfl (mks_cons (mk_flat (k := tStr) (⟨#[108]⟩ : ByteArray) [.string (⟨#[108]⟩ : ByteArray)] rfl) mks_nil) rfl rfl (by kernel_rfl)
  refine bp 1 1 (oe 2 rfl ?_)
  refine e_partsS 22 2 2 _ _ _ #[vI 3, vI 5] [vI 3, vI 5] rfl rfl rfl rfl (by kernel_rfl) (by kernel_rfl) (by kernel_rfl) (by kernel_rfl) hI ?_
  clear hI
  intro b14 _ hs15 hI
  replace hI := hI.asrow (k := (tInt .i64)) (xs := ([3, 5] : List Int)) (cs := [vI 3, vI 5]) (R := []) (L' := [.row tStr 9 (some ⟨b12, 0, none⟩) 1 1 ([(⟨#[108]⟩ : ByteArray)] : List ByteArray)]) 2 1 [] [0] (by decide) rfl (mks_cons (mk_flat (k := (tInt .i64)) 3 [vI 3] rfl) (mks_cons (mk_flat (k := (tInt .i64)) 5 [vI 5] rfl) mks_nil)) rfl rfl (by kernel_rfl)
  refine bp 3 1 (oe 4 rfl ?_)
  refine e_partsS 22 2 2 _ _ _ #[vI 5, vI 3] [vI 5, vI 3] rfl rfl rfl rfl (by kernel_rfl) (by kernel_rfl) (by kernel_rfl) (by kernel_rfl) hI ?_
  clear hI
  intro b16 _ hs17 hI
  replace hI := hI.asrow (k := (tInt .i64)) (xs := ([5, 3] : List Int)) (cs := [vI 5, vI 3]) (R := []) (L' := [.row (tInt .i64) 2 (some ⟨b14, 0, none⟩) 2 2 ([3, 5] : List Int), .row tStr 9 (some ⟨b12, 0, none⟩) 1 1 ([(⟨#[108]⟩ : ByteArray)] : List ByteArray)]) 2 2 [] [0, 1] (by decide) rfl (mks_cons (mk_flat (k := (tInt .i64)) 5 [vI 5] rfl) (mks_cons (mk_flat (k := (tInt .i64)) 3 [vI 3] rfl) mks_nil)) rfl rfl (by kernel_rfl)
  refine bp 5 1 (oe 6 rfl ?_)
  refine e_partsS 59 63 3 _ _ _ #[vI 2, vI 0, vI 5, vB false, vS none 0 0, vI 6, vI 0, vI 0, vB true, vS (some ⟨b14, 0, none⟩) 2 2, vI 6, vI 0, vI 0, vB true, vS (some ⟨b16, 0, none⟩) 2 2] [vI 2, vI 0, vI 5, vB false, vS none 0 0, vI 6, vI 0, vI 0, vB true, vS (some ⟨b14, 0, none⟩) 2 2, vI 6, vI 0, vI 0, vB true, vS (some ⟨b16, 0, none⟩) 2 2] rfl rfl rfl rfl (by kernel_rfl) (by kernel_rfl) (by kernel_rfl) (by kernel_rfl) hI ?_
  clear hI
  intro b18 _ hs19 hI
  replace hI := hI.asrow (k := kOp) (xs := ([(⟨2, 0, 5, false, ([] : List Int)⟩ : Op), (⟨6, 0, 0, true, ([3, 5] : List Int)⟩ : Op), (⟨6, 0, 0, true, ([5, 3] : List Int)⟩ : Op)] : List Op)) (cs := [vI 2, vI 0, vI 5, vB false, vS none 0 0, vI 6, vI 0, vI 0, vB true, vS (some ⟨b14, 0, none⟩) 2 2, vI 6, vI 0, vI 0, vB true, vS (some ⟨b16, 0, none⟩) 2 2]) (R := [.row (tInt .i64) 2 (some ⟨b14, 0, none⟩) 2 2 ([3, 5] : List Int), .row (tInt .i64) 2 (some ⟨b16, 0, none⟩) 2 2 ([5, 3] : List Int)]) (L' := [.row tStr 9 (some ⟨b12, 0, none⟩) 1 1 ([(⟨#[108]⟩ : ByteArray)] : List ByteArray)]) 3 3 [1, 0] [2] (by decide) rfl (mks_cons (mk_iso (g := fun g : Op => (g.Kind, g.Key, g.Arg, g.Got, g.Vals)) (x := (⟨2, 0, 5, false, ([] : List Int)⟩ : Op)) (mk_pair (mk_flat (k := (tInt .i64)) 2 [vI 2] rfl) (mk_pair (mk_flat (k := (tInt .i64)) 0 [vI 0] rfl) (mk_pair (mk_flat (k := (tInt .i64)) 5 [vI 5] rfl) (mk_pair (mk_flat (k := tBool) false [vB false] rfl) mk_nil))))) (mks_cons (mk_iso (g := fun g : Op => (g.Kind, g.Key, g.Arg, g.Got, g.Vals)) (x := (⟨6, 0, 0, true, ([3, 5] : List Int)⟩ : Op)) (mk_pair (mk_flat (k := (tInt .i64)) 6 [vI 6] rfl) (mk_pair (mk_flat (k := (tInt .i64)) 0 [vI 0] rfl) (mk_pair (mk_flat (k := (tInt .i64)) 0 [vI 0] rfl) (mk_pair (mk_flat (k := tBool) true [vB true] rfl) mk_row))))) (mks_cons (mk_iso (g := fun g : Op => (g.Kind, g.Key, g.Arg, g.Got, g.Vals)) (x := (⟨6, 0, 0, true, ([5, 3] : List Int)⟩ : Op)) (mk_pair (mk_flat (k := (tInt .i64)) 6 [vI 6] rfl) (mk_pair (mk_flat (k := (tInt .i64)) 0 [vI 0] rfl) (mk_pair (mk_flat (k := (tInt .i64)) 0 [vI 0] rfl) (mk_pair (mk_flat (k := tBool) true [vB true] rfl) mk_row))))) mks_nil))) rfl rfl (by kernel_rfl)
  refine bp 7 1 (oe 8 rfl ?_)
  refine e_partsS 38 61 1 _ _ _ #[vI 0, vI 1, vI 0, vI 1, vS (some ⟨b18, 0, none⟩) 3 3] [vI 0, vI 1, vI 0, vI 1, vS (some ⟨b18, 0, none⟩) 3 3] rfl rfl rfl rfl (by kernel_rfl) (by kernel_rfl) (by kernel_rfl) (by kernel_rfl) hI ?_
  clear hI
  intro b20 _ hs21 hI
  replace hI := hI.asrow (k := kTxn) (xs := ([(⟨0, 1, 0, 1, ([(⟨2, 0, 5, false, ([] : List Int)⟩ : Op), (⟨6, 0, 0, true, ([3, 5] : List Int)⟩ : Op), (⟨6, 0, 0, true, ([5, 3] : List Int)⟩ : Op)] : List Op)⟩ : Txn)] : List Txn)) (cs := [vI 0, vI 1, vI 0, vI 1, vS (some ⟨b18, 0, none⟩) 3 3]) (R := [.row kOp 63 (some ⟨b18, 0, none⟩) 3 3 ([(⟨2, 0, 5, false, ([] : List Int)⟩ : Op), (⟨6, 0, 0, true, ([3, 5] : List Int)⟩ : Op), (⟨6, 0, 0, true, ([5, 3] : List Int)⟩ : Op)] : List Op)]) (L' := [.row tStr 9 (some ⟨b12, 0, none⟩) 1 1 ([(⟨#[108]⟩ : ByteArray)] : List ByteArray)]) 1 2 [0] [1] (by decide) rfl (mks_cons (mk_iso (g := fun g : Txn => (g.Proc, g.Status, g.From, g.To, g.Ops)) (x := (⟨0, 1, 0, 1, ([(⟨2, 0, 5, false, ([] : List Int)⟩ : Op), (⟨6, 0, 0, true, ([3, 5] : List Int)⟩ : Op), (⟨6, 0, 0, true, ([5, 3] : List Int)⟩ : Op)] : List Op)⟩ : Txn)) (mk_pair (mk_flat (k := (tInt .i64)) 0 [vI 0] rfl) (mk_pair (mk_flat (k := (tInt .i64)) 1 [vI 1] rfl) (mk_pair (mk_flat (k := (tInt .i64)) 0 [vI 0] rfl) (mk_pair (mk_flat (k := (tInt .i64)) 1 [vI 1] rfl) mk_row))))) mks_nil) rfl rfl (by kernel_rfl)
  refine bp 9 1 (oe 10 rfl ?_)
  refine e_alloc 40 (.agg #[vS none 0 0, vS none 0 0]) [vS none 0 0, vS none 0 0] rfl (by kernel_rfl) rfl hI ?_
  clear hI
  intro b22 _ hI
  refine oe 11 rfl ?_
  refine e_store 40 _ _ 2 b22 40 [vS none 0 0, vS none 0 0] [vS (some ⟨b12, 0, none⟩) 1 1, vS (some ⟨b20, 0, none⟩) 1 1] 0 (.agg #[vS (some ⟨b12, 0, none⟩) 1 1, vS (some ⟨b20, 0, none⟩) 1 1]) rfl (by kernel_rfl) (by kernel_rfl) (by kernel_rfl) (by kernel_rfl) hI rfl (by kernel_rfl) (by kernel_rfl) ?_
  clear hI
  intro _ hI
  refine ro (go_seq (r_in (bg 0 [.l 0 0] (gA (hI.grp 2 rfl)) ?_)))
  replace H := bind_some H
  obtain ⟨y29, hy30, H⟩ := H
  refine o_is 5 (vS (some ⟨b12, 0, none⟩) 1 1) (vS (some ⟨b12, 0, none⟩) (([(⟨#[108]⟩ : ByteArray)] : List ByteArray).length) 1) (by kernel_rfl) (by first | rfl | simp only [List.length_set, List.length_replicate, List.length_nil]) ?_
  refine o_is 7 (vS (some ⟨b14, 0, none⟩) 2 2) (vS (some ⟨b14, 0, none⟩) (([3, 5] : List Int).length) 2) (by kernel_rfl) (by first | rfl | simp only [List.length_set, List.length_replicate, List.length_nil]) ?_
  refine o_is 8 (.agg #[vI 6, vI 0, vI 0, vB true, vS (some ⟨b14, 0, none⟩) 2 2]) (.agg #[vI 6, vI 0, vI 0, vB true, vS (some ⟨b14, 0, none⟩) (([3, 5] : List Int).length) 2]) (by kernel_rfl) (by first | rfl | simp only [List.length_set, List.length_replicate, List.length_nil]) ?_
  refine o_is 9 (vS (some ⟨b16, 0, none⟩) 2 2) (vS (some ⟨b16, 0, none⟩) (([5, 3] : List Int).length) 2) (by kernel_rfl) (by first | rfl | simp only [List.length_set, List.length_replicate, List.length_nil]) ?_
  refine o_is 10 (.agg #[vI 6, vI 0, vI 0, vB true, vS (some ⟨b16, 0, none⟩) 2 2]) (.agg #[vI 6, vI 0, vI 0, vB true, vS (some ⟨b16, 0, none⟩) (([5, 3] : List Int).length) 2]) (by kernel_rfl) (by first | rfl | simp only [List.length_set, List.length_replicate, List.length_nil]) ?_
  refine o_is 11 (vS (some ⟨b18, 0, none⟩) 3 3) (vS (some ⟨b18, 0, none⟩) (([(⟨2, 0, 5, false, ([] : List Int)⟩ : Op), (⟨6, 0, 0, true, ([3, 5] : List Int)⟩ : Op), (⟨6, 0, 0, true, ([5, 3] : List Int)⟩ : Op)] : List Op).length) 3) (by kernel_rfl) (by first | rfl | simp only [List.length_set, List.length_replicate, List.length_nil]) ?_
  refine o_is 12 (.agg #[vI 0, vI 1, vI 0, vI 1, vS (some ⟨b18, 0, none⟩) 3 3]) (.agg #[vI 0, vI 1, vI 0, vI 1, vS (some ⟨b18, 0, none⟩) (([(⟨2, 0, 5, false, ([] : List Int)⟩ : Op), (⟨6, 0, 0, true, ([3, 5] : List Int)⟩ : Op), (⟨6, 0, 0, true, ([5, 3] : List Int)⟩ : Op)] : List Op).length) 3]) (by kernel_rfl) (by first | rfl | simp only [List.length_set, List.length_replicate, List.length_nil]) ?_
  refine o_is 13 (vS (some ⟨b20, 0, none⟩) 1 1) (vS (some ⟨b20, 0, none⟩) (([(⟨0, 1, 0, 1, ([(⟨2, 0, 5, false, ([] : List Int)⟩ : Op), (⟨6, 0, 0, true, ([3, 5] : List Int)⟩ : Op), (⟨6, 0, 0, true, ([5, 3] : List Int)⟩ : Op)] : List Op)⟩ : Txn)] : List Txn).length) 1) (by kernel_rfl) (by first | rfl | simp only [List.length_set, List.length_replicate, List.length_nil]) ?_
  refine o_is 14 (.agg #[vS (some ⟨b12, 0, none⟩) 1 1, vS (some ⟨b20, 0, none⟩) 1 1]) (.agg #[vS (some ⟨b12, 0, none⟩) (([(⟨#[108]⟩ : ByteArray)] : List ByteArray).length) 1, vS (some ⟨b20, 0, none⟩) (([(⟨0, 1, 0, 1, ([(⟨2, 0, 5, false, ([] : List Int)⟩ : Op), (⟨6, 0, 0, true, ([3, 5] : List Int)⟩ : Op), (⟨6, 0, 0, true, ([5, 3] : List Int)⟩ : Op)] : List Op)⟩ : Txn)] : List Txn).length) 1]) (by kernel_rfl) (by first | rfl | simp only [List.length_set, List.length_replicate, List.length_nil]) ?_
  refine o_is 16 (.agg #[vS (some ⟨b12, 0, none⟩) 1 1, vS (some ⟨b20, 0, none⟩) 1 1]) (.agg #[vS (some ⟨b12, 0, none⟩) (([(⟨#[108]⟩ : ByteArray)] : List ByteArray).length) 1, vS (some ⟨b20, 0, none⟩) (([(⟨0, 1, 0, 1, ([(⟨2, 0, 5, false, ([] : List Int)⟩ : Op), (⟨6, 0, 0, true, ([3, 5] : List Int)⟩ : Op), (⟨6, 0, 0, true, ([5, 3] : List Int)⟩ : Op)] : List Op)⟩ : Txn)] : List Txn).length) 1]) (by kernel_rfl) (by first | rfl | simp only [List.length_set, List.length_replicate, List.length_nil]) ?_
  refine o_is 16 (.agg #[vS (some ⟨b12, 0, none⟩) 1 1, vS (some ⟨b20, 0, none⟩) 1 1]) (.agg #[vS (some ⟨b12, 0, none⟩) (([(⟨#[108]⟩ : ByteArray)] : List ByteArray).length) 1, vS (some ⟨b20, 0, none⟩) (([(⟨0, 1, 0, 1, ([(⟨2, 0, 5, false, ([] : List Int)⟩ : Op), (⟨6, 0, 0, true, ([3, 5] : List Int)⟩ : Op), (⟨6, 0, 0, true, ([5, 3] : List Int)⟩ : Op)] : List Op)⟩ : Txn)] : List Txn).length) 1]) (by kernel_rfl) (by first | rfl | simp only [List.length_set, List.length_replicate, List.length_nil]) ?_
  replace hI := hI.renum 0 rfl
  replace hI := hI.renum 1 rfl
  replace hI := hI.recell 2 [vS (some ⟨b12, 0, none⟩) (([(⟨#[108]⟩ : ByteArray)] : List ByteArray).length) 1, vS (some ⟨b20, 0, none⟩) (([(⟨0, 1, 0, 1, ([(⟨2, 0, 5, false, ([] : List Int)⟩ : Op), (⟨6, 0, 0, true, ([3, 5] : List Int)⟩ : Op), (⟨6, 0, 0, true, ([5, 3] : List Int)⟩ : Op)] : List Op)⟩ : Txn)] : List Txn).length) 1] (by first | rfl | simp only [List.length_set, List.length_replicate, List.length_nil]) rfl
  refine oe 1 rfl ?_
  refine ec (enter28 _) (local_Look_calls (⟨([(⟨#[108]⟩ : ByteArray)] : List ByteArray), ([(⟨0, 1, 0, 1, ([(⟨2, 0, 5, false, ([] : List Int)⟩ : Op), (⟨6, 0, 0, true, ([3, 5] : List Int)⟩ : Op), (⟨6, 0, 0, true, ([5, 3] : List Int)⟩ : Op)] : List Op)⟩ : Txn)] : List Txn)⟩ : History) (some ⟨b12, 0, none⟩) 1 (some ⟨b20, 0, none⟩) 1 0 (memOf _) _ (Inv.start _) (hI.row 1 rfl) (hI.rowle 1 rfl) (hI.row 0 rfl) (hI.rowle 0 rfl) _ hy30) ?_
  rintro _ _ ⟨A31, c32, A33, c34, rfl, hI'⟩
  replace hI := hI.call0 hI'
  clear hI'
  refine ⟨_, rfl, ?_⟩
  refine bp 2 7 (ro (go_seq (r_in ?_)))
  replace H := cond_some H
  rcases H with ⟨hc61, H⟩ | ⟨hc61, H⟩
  · replace H := cond_some H
    rcases H with ⟨hc62, H⟩ | ⟨hc62, H⟩
    · replace H := must_some H
      obtain ⟨g63, H⟩ := H
      obtain ⟨b64, rfl⟩ := hI.rowAt 3 rfl g63
      obtain ⟨cs67, hk66, hg65⟩ := rdS.look (hI.row 3 rfl) (hI.rowlen 3 rfl) g63
      obtain ⟨_, _, rfl, rfl, ⟨_, _, rfl, rfl, ⟨_, _, rfl, rfl, ⟨A68, c69, rfl, hl71, hr70⟩⟩⟩⟩ := hk66
      replace H := cond_some H
      rcases H with ⟨hc72, H⟩ | ⟨hc72, H⟩
      · obtain ⟨cs75, hk74, hg73⟩ := rdS.look (hI.row 3 rfl) (hI.rowlen 3 rfl) g63
        obtain ⟨_, _, rfl, rfl, ⟨_, _, rfl, rfl, ⟨_, _, rfl, rfl, ⟨A76, c77, rfl, hl79, hr78⟩⟩⟩⟩ := hk74
        replace H := must_some H
        obtain ⟨g80, H⟩ := H
        obtain ⟨b81, q82, rfl, _⟩ := rdS.fopen hr78 rfl g80
        replace H := cond_some H
        rcases H with ⟨hc83, H⟩ | ⟨hc83, H⟩
        · replace H := cond_some H
          rcases H with ⟨hc84, H⟩ | ⟨hc84, H⟩
          · replace H := must_some H
            obtain ⟨g85, H⟩ := H
            obtain ⟨b86, rfl⟩ := hI.rowAt 4 rfl g85
            refine bx 0 [.p, .p, .c true, .p, .p, .p, .p, .c true, .p, .x, .p, .l 0 3, .p, .p, .p, .c true, .p, .x, .p, .l 1 3, .x, .l 2 0, .p, .p, .c true, .p, .p, .p, .p, .c true, .p, .x, .l 3 0, .p, .x, .p, .p] (gD hg65.ok hg73.ok ((rdS.flook hr78 rfl g80).ok) ((rdS.flook (hI.row 4 rfl) (hI.rowlen 4 rfl) g85).ok)) _ (bC (bndEq hc61) (bC (bndEq hc62) (bC g63 (bC (bndEq hc72) (bC g63 (bC g80 (bC (bndEq hc83) (bC (bndEq hc84) (bZ g85))))))))) ?_
            refine ro ?_
            replace H := Option.some.inj H
            subst H
            exact gr Try.func26 ⟨rfl, hI.pn⟩
          · refine bx 0 [.p, .p, .c true, .p, .p, .p, .p, .c true, .p, .x, .p, .l 0 3, .p, .p, .p, .c true, .p, .x, .p, .l 1 3, .x, .l 2 0, .p, .p, .c true, .p, .p, .p, .p, .c false, .p, .p, .p, .p, .p, .p, .p] (gC hg65.ok hg73.ok ((rdS.flook hr78 rfl g80).ok)) _ (bC (bndEq hc61) (bC (bndEq hc62) (bC g63 (bC (bndEq hc72) (bC g63 (bC g80 (bC (bndEq hc83) (bZ (bndEq hc84))))))))) (ro ?_)
            replace H := Option.some.inj H
            subst H
            exact gr Try.func26 ⟨rfl, hI.pn⟩
        · refine bx 0 [.p, .p, .c true, .p, .p, .p, .p, .c true, .p, .x, .p, .l 0 3, .p, .p, .p, .c true, .p, .x, .p, .l 1 3, .x, .l 2 0, .p, .p, .c false, .p, .p, .p, .p, .p, .p, .p, .p, .p, .p, .p, .p] (gC hg65.ok hg73.ok ((rdS.flook hr78 rfl g80).ok)) _ (bC (bndEq hc61) (bC (bndEq hc62) (bC g63 (bC (bndEq hc72) (bC g63 (bC g80 (bZ (bndEq hc83)))))))) (ro ?_)
          replace H := Option.some.inj H
          subst H
          exact gr Try.func26 ⟨rfl, hI.pn⟩
      · refine bx 0 [.p, .p, .c true, .p, .p, .p, .p, .c true, .p, .x, .p, .l 0 3, .p, .p, .p, .c false, .p, .p, .p, .p, .p, .p, .p, .p, .p, .p, .p, .p, .p, .p, .p, .p, .p, .p, .p, .p, .p] (gA hg65.ok) _ (bC (bndEq hc61) (bC (bndEq hc62) (bC g63 (bZ (bndEq hc72))))) (ro ?_)
        replace H := Option.some.inj H
        subst H
        exact gr Try.func26 ⟨rfl, hI.pn⟩
    · refine bx 0 [.p, .p, .c true, .p, .p, .p, .p, .c false, .p, .p, .p, .p, .p, .p, .p, .p, .p, .p, .p, .p, .p, .p, .p, .p, .p, .p, .p, .p, .p, .p, .p, .p, .p, .p, .p, .p, .p] gO _ (bC (bndEq hc61) (bZ (bndEq hc62))) (ro ?_)
      replace H := Option.some.inj H
      subst H
      exact gr Try.func26 ⟨rfl, hI.pn⟩
  · refine bx 0 [.p, .p, .c false, .p, .p, .p, .p, .p, .p, .p, .p, .p, .p, .p, .p, .p, .p, .p, .p, .p, .p, .p, .p, .p, .p, .p, .p, .p, .p, .p, .p, .p, .p, .p, .p, .p, .p] gO _ (bZ (bndEq hc61)) (ro ?_)
    replace H := Option.some.inj H
    subst H
    exact gr Try.func26 ⟨rfl, hI.pn⟩

/-! ### assizelaw09zown -/
theorem enter37 (a : Array Value) : Sem.pureRun Try.prog (callFunc 37 a) = some (.enter 37 a) := by kernel_rfl
theorem assizelaw09zown_calls (a0 : Txn) (A0z0 : Option Addr) (c0z0 : Nat) (a1 : Int) (a2 : Int) (M : Mem) (w : World) (hI : Inv M w []) (hr0z0 : rdS kOp M.blk A0z0 a0.Ops) (hl0z0 : a0.Ops.length ≤ c0z0) (r : List Int) (H : assizelaw09zown a0 a1 a2 = some r) :
    Calls Try.prog 37 #[.agg #[vI a0.Proc, vI a0.Status, vI a0.From, vI a0.To, vS A0z0 a0.Ops.length c0z0], vI a1, vI a2] w fun e w' => ∃ (A521 : Option Addr), ∃ (c522 : Nat), e = .returned (vS A521 r.length c522) ∧ Inv M w' [.row (tInt .i64) 2 A521 r.length c522 r] := by
  refine cg Try.func37 ?_
  intro cs
  unfold assizelaw09zown at H
  refine go_seq (r_in (oe 0 rfl ?_))
  refine e_box 61 _ (.agg #[vI a0.Proc, vI a0.Status, vI a0.From, vI a0.To, vS A0z0 a0.Ops.length c0z0]) [vI a0.Proc, vI a0.Status, vI a0.From, vI a0.To, vS A0z0 a0.Ops.length c0z0] rfl (by kernel_rfl) rfl hI ?_
  clear hI
  intro b2 _ hI
  refine bp 1 1 (ro (go_seq (rp 1 (go_seq (go_seq (rp 1 (go_block ?_)))))))
  refine go_iter (assizelaw09zown.s1 a0 a1 a2) (fun (l383, x386) f w => ∃ (j : Nat → Value) (A384 : Option Addr) (c385 : Nat), f = updL j [(1, vI a1), (2, vI a2), (3, vP b2 0), (7, vS A384 l383.length c385), (8, vI x386)] ∧ Inv M w [.blk b2 61 [vI a0.Proc, vI a0.Status, vI a0.From, vI a0.To, vS A0z0 a0.Ops.length c0z0], .row (tInt .i64) 2 A384 l383.length c385 l383]) H ⟨_, none, 0, at_, (hI.nilrow (tInt .i64) 2)⟩ ?_
  clear H hI
  rintro ⟨l383, x386⟩ _ _ o1 H ⟨_, A384, c385, rfl, hI⟩ hin1 hout1
  refine go_seq (go_seq (rp 3 ?_))
  replace H := cond_some H
  rcases H with ⟨hc388, H⟩ | ⟨hc388, H⟩
  · refine gt hc388 (go_skip (go_seq ?_))
    refine go_block_join (o := o1) (fun l462 f w => ∃ (j : Nat → Value) (A463 : Option Addr) (c464 : Nat), f = updL j [(1, vI a1), (2, vI a2), (3, vP b2 0), (7, vS A463 l462.length c464), (8, vI x386)] ∧ Inv M w [.blk b2 61 [vI a0.Proc, vI a0.Status, vI a0.From, vI a0.To, vS A0z0 a0.Ops.length c0z0], .row (tInt .i64) 2 A463 l462.length c464 l462]) (fun l462 => assizelaw09zown.j2 x386 l462) ?_ (fun hJ465 => ?_)
    · clear H hI
      rintro l462 _ _ ⟨_, A463, c464, rfl, hI⟩ H
      refine rp 3 ?_
      exact hin1 _ (Option.some.inj H).symm _ _ ⟨_, A463, c464, at_, hI⟩
    · refine go_seq_join (o := o1) (fun b484 f w => ∃ (j : Nat → Value), f = updL j [(1, vI a1), (2, vI a2), (3, vP b2 0), (7, vS A384 l383.length c385), (8, vI x386), (30, vB b484)] ∧ Inv M w [.blk b2 61 [vI a0.Proc, vI a0.Status, vI a0.From, vI a0.To, vS A0z0 a0.Ops.length c0z0], .row (tInt .i64) 2 A384 l383.length c385 l383]) (fun b484 => assizelaw09zown.j3 a0 l383 x386 b484) ?_ (fun hJ485 => ?_)
      · clear H hI
        rintro b484 _ _ ⟨_, rfl, hI⟩ H
        replace H := cond_some H
        rcases H with ⟨hc486, H⟩ | ⟨hc486, H⟩
        · refine gt hc486 (r_in ?_)
          replace H := must_some H
          obtain ⟨g487, H⟩ := H
          obtain ⟨b491, q492, rfl, cs490, hk489, hg488⟩ := rdS.open hr0z0 rfl g487
          obtain ⟨_, _, rfl, rfl, ⟨_, _, rfl, rfl, ⟨_, _, rfl, rfl, ⟨_, _, rfl, rfl, ⟨A493, c494, rfl, hl496, hr495⟩⟩⟩⟩⟩ := hk489
          refine bx 0 [.p, .p, .l 0 4, .p, .x, .p, .l 1 2] (gB (hI.grp 0 rfl) (hI.lies hg488)) _ (bZ g487) (oe 7 rfl ?_)
          refine e_partsS 22 2 1 _ _ _ #[vI ((idx a0.Ops x386).Arg)] [vI ((idx a0.Ops x386).Arg)] rfl rfl rfl rfl (by kernel_rfl) (by kernel_rfl) (by kernel_rfl) (by kernel_rfl) hI ?_
          clear hI
          intro b497 _ hs498 hI
          replace H := must_some H
          obtain ⟨g499, H⟩ := H
          refine oe 8 rfl ?_
          refine e_append (tInt .i64) 22 0 2 _ _ _ _ A384 l383.length c385 l383 ([(idx a0.Ops x386).Arg] : List Int) b497 0 1 1 [vI ((idx a0.Ops x386).Arg)] 1 [] [0, 2] [] [.blk b2 61 [vI a0.Proc, vI a0.Status, vI a0.From, vI a0.To, vS (some ⟨b491, q492, none⟩) a0.Ops.length c0z0], .blk b497 2 [vI ((idx a0.Ops x386).Arg)]] rfl (by kernel_rfl) (by kernel_rfl) rfl rfl rfl rfl rfl (by kernel_rfl) hI (by decide) rfl rfl rfl (hI.grp 2 rfl) g499 (mks_cons (mk_flat (k := (tInt .i64)) ((idx a0.Ops x386).Arg) [vI ((idx a0.Ops x386).Arg)] rfl) mks_nil) ?_
          clear hI
          intro A500 c501 _ hI
          replace hI := hI.pick (L' := [.row (tInt .i64) 2 A500 ((l383 ++ ([(idx a0.Ops x386).Arg] : List Int)).length) c501 (l383 ++ ([(idx a0.Ops x386).Arg] : List Int)), .blk b2 61 [vI a0.Proc, vI a0.Status, vI a0.From, vI a0.To, vS (some ⟨b491, q492, none⟩) a0.Ops.length c0z0]]) [0, 1] (by decide) rfl
          refine bp 9 1 (ro (go_inBlock ?_))
          exact hJ465 (l383 ++ ([(idx a0.Ops x386).Arg] : List Int)) _ _ ⟨_, A500, c501, at_, hI.pick [1, 0] (by decide) rfl⟩ H
        · refine ge hc486 (go_skip (go_inBlock ?_))
          exact hJ465 l383 _ _ ⟨_, A384, c385, at_, hI⟩ H
      · refine r_in ?_
        replace H := must_some H
        obtain ⟨g502, H⟩ := H
        obtain ⟨b506, q507, rfl, cs505, hk504, hg503⟩ := rdS.open hr0z0 rfl g502
        obtain ⟨_, _, rfl, rfl, ⟨_, _, rfl, rfl, ⟨_, _, rfl, rfl, ⟨_, _, rfl, rfl, ⟨A508, c509, rfl, hl511, hr510⟩⟩⟩⟩⟩ := hk504
        replace H := cond_some H
        rcases H with ⟨hc512, H⟩ | ⟨hc512, H⟩
        · obtain ⟨cs515, hk514, hg513⟩ := rdS.look hr0z0 rfl g502
          obtain ⟨_, _, rfl, rfl, ⟨_, _, rfl, rfl, ⟨_, _, rfl, rfl, ⟨_, _, rfl, rfl, ⟨A516, c517, rfl, hl519, hr518⟩⟩⟩⟩⟩ := hk514
          refine bx 0 [.p, .l 0 4, .p, .x, .p, .l 1 1, .p, .p, .c true, .p, .l 0 4, .p, .x, .p, .l 2 0, .p, .p] (gC (hI.grp 0 rfl) (hI.lies hg503) (hI.lies hg513)) _ (bC g502 (bC (bndEq hc512) (bZ g502))) (ro ?_)
          exact hJ485 (decide ((idx a0.Ops x386).Kind ≤ 4)) _ _ ⟨_, at_, hI⟩ H
        · refine bx 0 [.p, .l 0 4, .p, .x, .p, .l 1 1, .p, .p, .c false, .p, .p, .p, .p, .p, .p, .p, .p] (gB (hI.grp 0 rfl) (hI.lies hg503)) _ (bC g502 (bZ (bndEq hc512))) (ro ?_)
          exact hJ485 false _ _ ⟨_, at_, hI⟩ H
  · refine ge hc388 ?_
    refine go_exit rfl ?_
    refine go_seq (rp 2 ?_)
    replace H := out_some H
    obtain ⟨_, H, he1⟩ := H
    have he := (hout1 _ he1).symm
    subst he
    replace H := Option.some.inj H
    subst H
    exact gr Try.func37 ⟨A384, c385, rfl, hI.pick [1] (by decide) rfl⟩

/-! ### assizelaw09zLocalReads -/
theorem enter12 (a : Array Value) : Sem.pureRun Try.prog (callFunc 12 a) = some (.enter 12 a) := by kernel_rfl
theorem assizelaw09zLocalReads_calls (a0 : History) (A0z0 : Option Addr) (c0z0 : Nat) (A0z1 : Option Addr) (c0z1 : Nat) (a1 : Int) (M : Mem) (w : World) (hI : Inv M w []) (hr0z0 : rdS tStr M.blk A0z0 a0.Keys) (hl0z0 : a0.Keys.length ≤ c0z0) (hr0z1 : rdS kTxn M.blk A0z1 a0.Txns) (hl0z1 : a0.Txns.length ≤ c0z1) (r : Bool) (H : assizelaw09zLocalReads a0 a1 = some r) :
    Calls Try.prog 12 #[.agg #[vS A0z0 a0.Keys.length c0z0, vS A0z1 a0.Txns.length c0z1], vI a1] w fun e w' => e = .returned (vB r) ∧ Inv M w' [] := by
  refine cg Try.func12 ?_
  intro cs
  unfold assizelaw09zLocalReads at H
  refine go_seq (r_in (oe 0 rfl ?_))
  refine e_box 40 _ (.agg #[vS A0z0 a0.Keys.length c0z0, vS A0z1 a0.Txns.length c0z1]) [vS A0z0 a0.Keys.length c0z0, vS A0z1 a0.Txns.length c0z1] rfl (by kernel_rfl) rfl hI ?_
  clear hI
  intro b2 _ hI
  refine bp 1 1 (ro (go_seq (go_seq (r_in ?_))))
  replace H := bind_some H
  obtain ⟨y8, hy9, H⟩ := H
  refine oe 0 rfl ?_
  refine ec (enter26 _) (assizelaw09zalive_calls (memOf _) _ (Inv.start _) _ hy9) ?_
  rintro _ _ ⟨rfl, hI'⟩
  replace hI := hI.call0 hI'
  clear hI'
  refine ⟨_, rfl, ?_⟩
  refine bp 1 1 (ro ?_)
  replace H := cond_some H
  rcases H with ⟨hc10, H⟩ | ⟨hc10, H⟩
  · refine gt hc10 (go_seq (rp 1 ?_))
    replace H := Option.some.inj H
    subst H
    exact gr Try.func12 ⟨rfl, hI.pn⟩
  · refine ge hc10 (go_skip (go_seq (r_in (bg 0 [.l 0 0, .p] (gA (hI.grp 0 rfl)) ?_))))
    replace H := bind_some H
    obtain ⟨y26, hy27, H⟩ := H
    refine oe 2 rfl ?_
    refine ec (enter28 _) (local_Look_calls a0 A0z0 c0z0 A0z1 c0z1 a1 (memOf _) _ (Inv.start _) (hI.rd hr0z0) hl0z0 (hI.rd hr0z1) hl0z1 _ hy27) ?_
    rintro _ _ ⟨A28, c29, A30, c31, rfl, hI'⟩
    replace hI := hI.call0 hI'
    clear hI'
    refine ⟨_, rfl, ?_⟩
    refine bp 3 7 (ro ?_)
    obtain ⟨M32, F33, hs34, hb35, ho36, hI'⟩ := hI.lend 1 rfl
    clear hI
    have hI := hI'.pick (L' := [.blk b2 40 [vS A0z0 a0.Keys.length c0z0, vS A0z1 a0.Txns.length c0z1], .row kSpot 53 A30 y26.2.1.length c31 y26.2.1]) [0, 2] (by decide) rfl
    clear hI'
    have hr37 := rowOwn.rd ho36.1
    have hl38 := rowOwn.le ho36.1
    have hf39 := rdS.mono hr0z0 hs34
    have hf40 := rdS.mono hr0z1 hs34
    refine go_seq (go_seq (rp 2 ?_))
    replace H := cond_some H
    rcases H with ⟨hc44, H⟩ | ⟨hc44, H⟩
    · refine gt hc44 (go_seq (r_in ?_))
      replace H := cond_some H
      rcases H with ⟨hc46, H⟩ | ⟨hc46, H⟩
      · refine bx 0 [.p, .p, .p, .c true, .p, .p, .p, .p, .p] gO _ (bZ (bndEq hc46)) (ro ?_)
        replace H := Option.some.inj H
        subst H
        exact gr Try.func12 ⟨rfl, Inv.tail (hb35 _ _ (hI.pn))⟩
      · refine bx 0 [.p, .p, .p, .c false, .p, .p, .p, .p, .p] gO _ (bZ (bndEq hc46)) (ro ?_)
        replace H := Option.some.inj H
        subst H
        exact gr Try.func12 ⟨rfl, Inv.tail (hb35 _ _ (hI.pn))⟩
    · refine ge hc44 (go_skip (go_seq (r_in ?_)))
      replace H := must_some H
      obtain ⟨g58, H⟩ := H
      obtain ⟨b62, q63, rfl, cs61, hk60, hg59⟩ := rdS.open hf40 rfl g58
      obtain ⟨_, _, rfl, rfl, ⟨_, _, rfl, rfl, ⟨_, _, rfl, rfl, ⟨_, _, rfl, rfl, ⟨A64, c65, rfl, hl67, hr66⟩⟩⟩⟩⟩ := hk60
      refine bx 0 [.p, .l 0 1, .p, .x, .l 1 0] (gB (hI.grp 0 rfl) (hI.lies hg59)) _ (bZ g58) (oe 5 rfl ?_)
      refine e_alloc 61 (.agg #[vI 0, vI 0, vI 0, vI 0, vS none 0 0]) [vI 0, vI 0, vI 0, vI 0, vS none 0 0] rfl (by kernel_rfl) rfl hI ?_
      clear hI
      intro b68 _ hI
      refine oe 6 rfl ?_
      refine e_store 61 _ _ 2 b68 61 [vI 0, vI 0, vI 0, vI 0, vS none 0 0] [vI ((idx a0.Txns a1).Proc), vI ((idx a0.Txns a1).Status), vI ((idx a0.Txns a1).From), vI ((idx a0.Txns a1).To), vS A64 (((idx a0.Txns a1).Ops).length) c65] 0 (.agg #[vI ((idx a0.Txns a1).Proc), vI ((idx a0.Txns a1).Status), vI ((idx a0.Txns a1).From), vI ((idx a0.Txns a1).To), vS A64 (((idx a0.Txns a1).Ops).length) c65]) rfl (by kernel_rfl) (by kernel_rfl) (by kernel_rfl) (by kernel_rfl) hI rfl (by kernel_rfl) (by kernel_rfl) ?_
      clear hI
      intro _ hI
      refine ro (go_seq (rp 2 (go_seq (go_seq (rp 1 (go_block ?_))))))
      refine go_iter (assizelaw09zLocalReads.s1 a0 a1 y26) (fun (x1152, x1153, x1154) f w => ∃ (j : Nat → Value), f = updL j [(1, vI a1), (5, vS A28 y26.1.length c29), (6, vS A30 y26.2.1.length c31), (8, vP b68 0), (9, vI x1152), (10, vI x1153), (11, vI x1154)] ∧ Inv M32 w [.row kSpot 53 A30 y26.2.1.length c31 y26.2.1, .blk b68 61 [vI ((idx a0.Txns a1).Proc), vI ((idx a0.Txns a1).Status), vI ((idx a0.Txns a1).From), vI ((idx a0.Txns a1).To), vS A64 (((idx a0.Txns a1).Ops).length) c65]]) H ⟨_, at_, hI.pick [1, 2] (by decide) rfl⟩ ?_
      clear H hI
      rintro ⟨x1152, x1153, x1154⟩ _ _ o1 H ⟨_, rfl, hI⟩ hin1 hout1
      refine go_seq (go_seq (rg [.p, .p, .l 0 4, .p, .p] (gA (hI.grp 1 rfl)) ?_))
      replace H := cond_some H
      rcases H with ⟨hc1156, H⟩ | ⟨hc1156, H⟩
      · refine gt hc1156 (go_skip (go_seq ?_))
        refine go_block_join (o := o1) (fun (x1411, x1412) f w => ∃ (j : Nat → Value), f = updL j [(1, vI a1), (5, vS A28 y26.1.length c29), (6, vS A30 y26.2.1.length c31), (8, vP b68 0), (9, vI x1411), (10, vI x1412), (11, vI x1154)] ∧ Inv M32 w [.row kSpot 53 A30 y26.2.1.length c31 y26.2.1, .blk b68 61 [vI ((idx a0.Txns a1).Proc), vI ((idx a0.Txns a1).Status), vI ((idx a0.Txns a1).From), vI ((idx a0.Txns a1).To), vS A64 (((idx a0.Txns a1).Ops).length) c65]]) (fun (x1411, x1412) => assizelaw09zLocalReads.j2 x1154 x1411 x1412) ?_ (fun hJ1413 => ?_)
        · clear H hI
          rintro ⟨x1411, x1412⟩ _ _ ⟨_, rfl, hI⟩ H
          refine rp 3 ?_
          exact hin1 _ (Option.some.inj H).symm _ _ ⟨_, at_, hI⟩
        · refine go_seq (r_in ?_)
          replace H := must_some H
          obtain ⟨g1425, H⟩ := H
          obtain ⟨b1429, q1430, rfl, cs1428, hk1427, hg1426⟩ := rdS.open hr66 rfl g1425
          obtain ⟨_, _, rfl, rfl, ⟨_, _, rfl, rfl, ⟨_, _, rfl, rfl, ⟨_, _, rfl, rfl, ⟨A1431, c1432, rfl, hl1434, hr1433⟩⟩⟩⟩⟩ := hk1427
          refine bx 0 [.p, .l 0 4, .p, .x, .l 1 0] (gB (hI.grp 1 rfl) (hI.lies hg1426)) _ (bZ g1425) (oe 5 rfl ?_)
          refine e_alloc 63 (.agg #[vI 0, vI 0, vI 0, vB false, vS none 0 0]) [vI 0, vI 0, vI 0, vB false, vS none 0 0] rfl (by kernel_rfl) rfl hI ?_
          clear hI
          intro b1435 _ hI
          refine oe 6 rfl ?_
          refine e_store 63 _ _ 2 b1435 63 [vI 0, vI 0, vI 0, vB false, vS none 0 0] [vI ((idx ((idx a0.Txns a1).Ops) x1154).Kind), vI ((idx ((idx a0.Txns a1).Ops) x1154).Key), vI ((idx ((idx a0.Txns a1).Ops) x1154).Arg), vB ((idx ((idx a0.Txns a1).Ops) x1154).Got), vS A1431 (((idx ((idx a0.Txns a1).Ops) x1154).Vals).length) c1432] 0 (.agg #[vI ((idx ((idx a0.Txns a1).Ops) x1154).Kind), vI ((idx ((idx a0.Txns a1).Ops) x1154).Key), vI ((idx ((idx a0.Txns a1).Ops) x1154).Arg), vB ((idx ((idx a0.Txns a1).Ops) x1154).Got), vS A1431 (((idx ((idx a0.Txns a1).Ops) x1154).Vals).length) c1432]) rfl (by kernel_rfl) (by kernel_rfl) (by kernel_rfl) (by kernel_rfl) hI rfl (by kernel_rfl) (by kernel_rfl) ?_
          clear hI
          intro _ hI
          refine ro ?_
          refine go_seq_join (o := o1) (fun b1447 f w => ∃ (j : Nat → Value), f = updL j [(1, vI a1), (5, vS A28 y26.1.length c29), (6, vS A30 y26.2.1.length c31), (8, vP b68 0), (9, vI x1152), (10, vI x1153), (11, vI x1154), (12, vP b1435 0), (13, vB b1447)] ∧ Inv M32 w [.row kSpot 53 A30 y26.2.1.length c31 y26.2.1, .blk b68 61 [vI ((idx a0.Txns a1).Proc), vI ((idx a0.Txns a1).Status), vI ((idx a0.Txns a1).From), vI ((idx a0.Txns a1).To), vS (some ⟨b1429, q1430, none⟩) (((idx a0.Txns a1).Ops).length) c65], .blk b1435 63 [vI ((idx ((idx a0.Txns a1).Ops) x1154).Kind), vI ((idx ((idx a0.Txns a1).Ops) x1154).Key), vI ((idx ((idx a0.Txns a1).Ops) x1154).Arg), vB ((idx ((idx a0.Txns a1).Ops) x1154).Got), vS A1431 (((idx ((idx a0.Txns a1).Ops) x1154).Vals).length) c1432]]) (fun b1447 => assizelaw09zLocalReads.j3 a0 a1 y26 x1152 x1153 x1154 b1447) ?_ (fun hJ1448 => ?_)
          · clear H hI
            rintro b1447 _ _ ⟨_, rfl, hI⟩ H
            refine go_seq_join (o := o1) (fun b1452 f w => ∃ (j : Nat → Value), f = updL j [(1, vI a1), (5, vS A28 y26.1.length c29), (6, vS A30 y26.2.1.length c31), (8, vP b68 0), (9, vI x1152), (10, vI x1153), (11, vI x1154), (12, vP b1435 0), (13, vB b1447), (14, vB b1452)] ∧ Inv M32 w [.row kSpot 53 A30 y26.2.1.length c31 y26.2.1, .blk b68 61 [vI ((idx a0.Txns a1).Proc), vI ((idx a0.Txns a1).Status), vI ((idx a0.Txns a1).From), vI ((idx a0.Txns a1).To), vS (some ⟨b1429, q1430, none⟩) (((idx a0.Txns a1).Ops).length) c65], .blk b1435 63 [vI ((idx ((idx a0.Txns a1).Ops) x1154).Kind), vI ((idx ((idx a0.Txns a1).Ops) x1154).Key), vI ((idx ((idx a0.Txns a1).Ops) x1154).Arg), vB ((idx ((idx a0.Txns a1).Ops) x1154).Got), vS A1431 (((idx ((idx a0.Txns a1).Ops) x1154).Vals).length) c1432]]) (fun b1452 => assizelaw09zLocalReads.j4 a0 a1 y26 x1152 x1153 x1154 b1447 b1452) ?_ (fun hJ1453 => ?_)
            · clear H hI
              rintro b1452 _ _ ⟨_, rfl, hI⟩ H
              refine go_seq (r_in (bg 0 [.l 0 0, .p, .l 1 1, .p] (gB (hI.grp 1 rfl) (hI.grp 2 rfl)) ?_))
              replace H := bind_some H
              obtain ⟨y1458, hy1459, H⟩ := H
              refine oe 4 rfl ?_
              refine ec (enter37 _) (assizelaw09zown_calls (idx a0.Txns a1) (some ⟨b1429, q1430, none⟩) c65 ((idx ((idx a0.Txns a1).Ops) x1154).Key) x1154 (memOf _) _ (Inv.start _) (hI.rd hr66) hl67 _ hy1459) ?_
              rintro _ _ ⟨A1460, c1461, rfl, hI'⟩
              replace hI := hI.call0 hI'
              clear hI'
              refine ⟨_, rfl, ?_⟩
              refine bp 5 1 (ro (go_seq ?_))
              refine go_seq_join (o := o1) (fun b1469 f w => ∃ (j : Nat → Value), f = updL j [(1, vI a1), (5, vS A28 y26.1.length c29), (6, vS A30 y26.2.1.length c31), (8, vP b68 0), (9, vI x1152), (10, vI x1153), (11, vI x1154), (12, vP b1435 0), (13, vB b1447), (14, vB b1452), (15, vS A1460 y1458.length c1461), (94, vB b1469)] ∧ Inv M32 w [.row kSpot 53 A30 y26.2.1.length c31 y26.2.1, .blk b68 61 [vI ((idx a0.Txns a1).Proc), vI ((idx a0.Txns a1).Status), vI ((idx a0.Txns a1).From), vI ((idx a0.Txns a1).To), vS (some ⟨b1429, q1430, none⟩) (((idx a0.Txns a1).Ops).length) c65], .blk b1435 63 [vI ((idx ((idx a0.Txns a1).Ops) x1154).Kind), vI ((idx ((idx a0.Txns a1).Ops) x1154).Key), vI ((idx ((idx a0.Txns a1).Ops) x1154).Arg), vB ((idx ((idx a0.Txns a1).Ops) x1154).Got), vS A1431 (((idx ((idx a0.Txns a1).Ops) x1154).Vals).length) c1432], .row (tInt .i64) 2 A1460 y1458.length c1461 y1458]) (fun b1469 => assizelaw09zLocalReads.j5 a0 a1 y26 x1152 x1153 x1154 b1447 b1452 y1458 b1469) ?_ (fun hJ1470 => ?_)
              · clear H hI
                rintro b1469 _ _ ⟨_, rfl, hI⟩ H
                replace H := cond_some H
                rcases H with ⟨hc1471, H⟩ | ⟨hc1471, H⟩
                · refine gt hc1471 (go_seq ?_)
                  refine go_seq_join (o := o1) (fun b1476 f w => ∃ (j : Nat → Value), f = updL j [(1, vI a1), (5, vS A28 y26.1.length c29), (6, vS A30 y26.2.1.length c31), (8, vP b68 0), (9, vI x1152), (10, vI x1153), (11, vI x1154), (98, vB b1476)] ∧ Inv M32 w [.row kSpot 53 A30 y26.2.1.length c31 y26.2.1, .blk b68 61 [vI ((idx a0.Txns a1).Proc), vI ((idx a0.Txns a1).Status), vI ((idx a0.Txns a1).From), vI ((idx a0.Txns a1).To), vS (some ⟨b1429, q1430, none⟩) (((idx a0.Txns a1).Ops).length) c65]]) (fun b1476 => assizelaw09zLocalReads.j6 x1152 x1153 x1154 b1476) ?_ (fun hJ1477 => ?_)
                  · clear H hI
                    rintro b1476 _ _ ⟨_, rfl, hI⟩ H
                    replace H := cond_some H
                    rcases H with ⟨hc1478, H⟩ | ⟨hc1478, H⟩
                    · refine gt hc1478 (go_seq (rp 1 ?_))
                      replace H := out_some H
                      obtain ⟨_, H, he1⟩ := H
                      have he := (hout1 _ he1).symm
                      subst he
                      replace H := Option.some.inj H
                      subst H
                      exact gr Try.func12 ⟨rfl, Inv.tail (hb35 _ _ (hI.pn))⟩
                    · refine ge hc1478 (go_skip ?_)
                      refine go_exit rfl ?_
                      exact hJ1413 (x1152, x1153) _ _ ⟨_, at_, hI⟩ H
                  · refine r_in ?_
                    replace H := cond_some H
                    rcases H with ⟨hc1479, H⟩ | ⟨hc1479, H⟩
                    · refine bx 0 [.p, .c true, .p, .p] gO _ (bZ (bndEq hc1479)) (ro ?_)
                      exact hJ1477 true _ _ ⟨_, at_, hI.pick [0, 1] (by decide) rfl⟩ H
                    · refine bx 0 [.p, .c false, .p, .p] gO _ (bZ (bndEq hc1479)) (ro ?_)
                      exact hJ1477 b1452 _ _ ⟨_, at_, hI.pick [0, 1] (by decide) rfl⟩ H
                · refine ge hc1471 (go_skip (go_seq ?_))
                  refine go_seq_join (o := o1) (fun b1498 f w => ∃ (j : Nat → Value), f = updL j [(1, vI a1), (5, vS A28 y26.1.length c29), (6, vS A30 y26.2.1.length c31), (8, vP b68 0), (9, vI x1152), (10, vI x1153), (11, vI x1154), (12, vP b1435 0), (13, vB b1447), (14, vB b1452), (15, vS A1460 y1458.length c1461), (120, vB b1498)] ∧ Inv M32 w [.row kSpot 53 A30 y26.2.1.length c31 y26.2.1, .blk b68 61 [vI ((idx a0.Txns a1).Proc), vI ((idx a0.Txns a1).Status), vI ((idx a0.Txns a1).From), vI ((idx a0.Txns a1).To), vS (some ⟨b1429, q1430, none⟩) (((idx a0.Txns a1).Ops).length) c65], .blk b1435 63 [vI ((idx ((idx a0.Txns a1).Ops) x1154).Kind), vI ((idx ((idx a0.Txns a1).Ops) x1154).Key), vI ((idx ((idx a0.Txns a1).Ops) x1154).Arg), vB ((idx ((idx a0.Txns a1).Ops) x1154).Got), vS A1431 (((idx ((idx a0.Txns a1).Ops) x1154).Vals).length) c1432], .row (tInt .i64) 2 A1460 y1458.length c1461 y1458]) (fun b1498 => assizelaw09zLocalReads.j7 a0 a1 y26 x1152 x1153 x1154 b1447 b1452 y1458 b1498) ?_ (fun hJ1499 => ?_)
                  · clear H hI
                    rintro b1498 _ _ ⟨_, rfl, hI⟩ H
                    replace H := cond_some H
                    rcases H with ⟨hc1500, H⟩ | ⟨hc1500, H⟩
                    · refine gt hc1500 (go_seq (rp 1 ?_))
                      replace H := out_some H
                      obtain ⟨_, H, he1⟩ := H
                      have he := (hout1 _ he1).symm
                      subst he
                      replace H := Option.some.inj H
                      subst H
                      exact gr Try.func12 ⟨rfl, Inv.tail (hb35 _ _ (hI.pn))⟩
                    · refine ge hc1500 (go_skip ?_)
                      refine go_seq_join (o := o1) (fun x1502 f w => ∃ (j : Nat → Value), f = updL j [(1, vI a1), (5, vS A28 y26.1.length c29), (6, vS A30 y26.2.1.length c31), (8, vP b68 0), (9, vI x1152), (10, vI x1502), (11, vI x1154), (12, vP b1435 0), (13, vB b1447), (15, vS A1460 y1458.length c1461)] ∧ Inv M32 w [.row kSpot 53 A30 y26.2.1.length c31 y26.2.1, .blk b68 61 [vI ((idx a0.Txns a1).Proc), vI ((idx a0.Txns a1).Status), vI ((idx a0.Txns a1).From), vI ((idx a0.Txns a1).To), vS (some ⟨b1429, q1430, none⟩) (((idx a0.Txns a1).Ops).length) c65], .blk b1435 63 [vI ((idx ((idx a0.Txns a1).Ops) x1154).Kind), vI ((idx ((idx a0.Txns a1).Ops) x1154).Key), vI ((idx ((idx a0.Txns a1).Ops) x1154).Arg), vB ((idx ((idx a0.Txns a1).Ops) x1154).Got), vS A1431 (((idx ((idx a0.Txns a1).Ops) x1154).Vals).length) c1432], .row (tInt .i64) 2 A1460 y1458.length c1461 y1458]) (fun x1502 => assizelaw09zLocalReads.j8 a0 a1 y26 x1152 x1154 b1447 y1458 x1502) ?_ (fun hJ1503 => ?_)
                      · clear H hI
                        rintro x1502 _ _ ⟨_, rfl, hI⟩ H
                        refine go_seq (go_seq (rp 2 ?_))
                        replace H := cond_some H
                        rcases H with ⟨hc1505, H⟩ | ⟨hc1505, H⟩
                        · refine gt hc1505 ?_
                          refine go_exit rfl ?_
                          exact hJ1413 (x1152, x1502) _ _ ⟨_, at_, hI.pick [0, 1] (by decide) rfl⟩ H
                        · refine ge hc1505 (go_skip (go_seq (r_in ?_)))
                          replace H := must_some H
                          obtain ⟨g1517, H⟩ := H
                          obtain ⟨b1521, q1522, rfl, cs1520, hk1519, hg1518⟩ := rdS.open hr37 rfl g1517
                          obtain ⟨_, _, rfl, rfl, ⟨_, _, rfl, rfl, ⟨_, _, rfl, rfl, ⟨A1523, c1524, rfl, hl1526, hr1525⟩⟩⟩⟩ := hk1519
                          refine bx 0 [.p, .p, .x, .l 0 0] (gA (hI.lies hg1518)) _ (bZ g1517) (oe 4 rfl ?_)
                          refine e_alloc 51 (.agg #[vI 0, vI 0, vI 0, vS none 0 0]) [vI 0, vI 0, vI 0, vS none 0 0] rfl (by kernel_rfl) rfl hI ?_
                          clear hI
                          intro b1527 _ hI
                          refine oe 5 rfl ?_
                          refine e_store 51 _ _ 4 b1527 51 [vI 0, vI 0, vI 0, vS none 0 0] [vI ((idx y26.1 x1152).Txn), vI ((idx y26.1 x1152).Place), vI ((idx y26.1 x1152).Key), vS A1523 (((idx y26.1 x1152).Base).length) c1524] 0 (.agg #[vI ((idx y26.1 x1152).Txn), vI ((idx y26.1 x1152).Place), vI ((idx y26.1 x1152).Key), vS A1523 (((idx y26.1 x1152).Base).length) c1524]) rfl (by kernel_rfl) (by kernel_rfl) (by kernel_rfl) (by kernel_rfl) hI rfl (by kernel_rfl) (by kernel_rfl) ?_
                          clear hI
                          intro _ hI
                          refine ro (go_seq (rp 3 (go_seq ?_)))
                          refine go_seq_join (o := o1) (fun b1532 f w => ∃ (j : Nat → Value), f = updL j [(1, vI a1), (5, vS (some ⟨b1521, q1522, none⟩) y26.1.length c29), (6, vS A30 y26.2.1.length c31), (8, vP b68 0), (9, vI (w64 (x1152 + 1))), (10, vI x1502), (11, vI x1154), (12, vP b1435 0), (15, vS A1460 y1458.length c1461), (16, vP b1527 0), (142, vB b1532)] ∧ Inv M32 w [.row kSpot 53 A30 y26.2.1.length c31 y26.2.1, .blk b68 61 [vI ((idx a0.Txns a1).Proc), vI ((idx a0.Txns a1).Status), vI ((idx a0.Txns a1).From), vI ((idx a0.Txns a1).To), vS (some ⟨b1429, q1430, none⟩) (((idx a0.Txns a1).Ops).length) c65], .blk b1435 63 [vI ((idx ((idx a0.Txns a1).Ops) x1154).Kind), vI ((idx ((idx a0.Txns a1).Ops) x1154).Key), vI ((idx ((idx a0.Txns a1).Ops) x1154).Arg), vB ((idx ((idx a0.Txns a1).Ops) x1154).Got), vS A1431 (((idx ((idx a0.Txns a1).Ops) x1154).Vals).length) c1432], .row (tInt .i64) 2 A1460 y1458.length c1461 y1458, .blk b1527 51 [vI ((idx y26.1 x1152).Txn), vI ((idx y26.1 x1152).Place), vI ((idx y26.1 x1152).Key), vS A1523 (((idx y26.1 x1152).Base).length) c1524]]) (fun b1532 => assizelaw09zLocalReads.j9 a0 a1 y26 x1152 x1154 y1458 x1502 b1532) ?_ (fun hJ1533 => ?_)
                          · clear H hI
                            rintro b1532 _ _ ⟨_, rfl, hI⟩ H
                            replace H := cond_some H
                            rcases H with ⟨hc1534, H⟩ | ⟨hc1534, H⟩
                            · refine gt hc1534 (go_seq (rp 1 ?_))
                              replace H := out_some H
                              obtain ⟨_, H, he1⟩ := H
                              have he := (hout1 _ he1).symm
                              subst he
                              replace H := Option.some.inj H
                              subst H
                              exact gr Try.func12 ⟨rfl, Inv.tail (hb35 _ _ (hI.pn))⟩
                            · refine ge hc1534 (go_skip (go_seq (rg [.p, .l 0 3, .p, .p] (gA (hI.grp 4 rfl)) (go_seq (go_seq (rp 1 (go_block ?_)))))))
                              refine go_iter (assizelaw09zLocalReads.s10 a0 a1 x1152 x1154 y1458 x1502) (fun (l1692, x1695, x1696) f w => ∃ (j : Nat → Value) (A1693 : Option Addr) (c1694 : Nat), f = updL j [(1, vI a1), (5, vS (some ⟨b1521, q1522, none⟩) y26.1.length c29), (6, vS A30 y26.2.1.length c31), (8, vP b68 0), (9, vI (w64 (x1152 + 1))), (10, vI x1502), (11, vI x1154), (12, vP b1435 0), (15, vS A1460 y1458.length c1461), (17, vS A1693 l1692.length c1694), (18, vI x1695), (19, vI x1696)] ∧ Inv M32 w [.row kSpot 53 A30 y26.2.1.length c31 y26.2.1, .blk b68 61 [vI ((idx a0.Txns a1).Proc), vI ((idx a0.Txns a1).Status), vI ((idx a0.Txns a1).From), vI ((idx a0.Txns a1).To), vS (some ⟨b1429, q1430, none⟩) (((idx a0.Txns a1).Ops).length) c65], .blk b1435 63 [vI ((idx ((idx a0.Txns a1).Ops) x1154).Kind), vI ((idx ((idx a0.Txns a1).Ops) x1154).Key), vI ((idx ((idx a0.Txns a1).Ops) x1154).Arg), vB ((idx ((idx a0.Txns a1).Ops) x1154).Got), vS A1431 (((idx ((idx a0.Txns a1).Ops) x1154).Vals).length) c1432], .row (tInt .i64) 2 A1460 y1458.length c1461 y1458, orA M32.blk (tInt .i64) 2 A1693 l1692.length c1694 l1692]) H ⟨_, A1523, c1524, at_, (hI.addOr (k := (tInt .i64)) (N := M32.blk) 2 hr1525 hl1526 rfl).pick [0, 1, 2, 3, 5] (by decide) rfl⟩ ?_
                              clear H hI
                              rintro ⟨l1692, x1695, x1696⟩ _ _ o2 H ⟨_, A1693, c1694, rfl, hI⟩ hin2 hout2
                              refine go_seq ?_
                              refine go_seq_join (o := o2) (fun b1701 f w => ∃ (j : Nat → Value), f = updL j [(1, vI a1), (5, vS (some ⟨b1521, q1522, none⟩) y26.1.length c29), (6, vS A30 y26.2.1.length c31), (8, vP b68 0), (9, vI (w64 (x1152 + 1))), (10, vI x1502), (11, vI x1154), (12, vP b1435 0), (15, vS A1460 y1458.length c1461), (17, vS A1693 l1692.length c1694), (18, vI x1695), (19, vI x1696), (152, vB b1701)] ∧ Inv M32 w [.row kSpot 53 A30 y26.2.1.length c31 y26.2.1, .blk b68 61 [vI ((idx a0.Txns a1).Proc), vI ((idx a0.Txns a1).Status), vI ((idx a0.Txns a1).From), vI ((idx a0.Txns a1).To), vS (some ⟨b1429, q1430, none⟩) (((idx a0.Txns a1).Ops).length) c65], .blk b1435 63 [vI ((idx ((idx a0.Txns a1).Ops) x1154).Kind), vI ((idx ((idx a0.Txns a1).Ops) x1154).Key), vI ((idx ((idx a0.Txns a1).Ops) x1154).Arg), vB ((idx ((idx a0.Txns a1).Ops) x1154).Got), vS A1431 (((idx ((idx a0.Txns a1).Ops) x1154).Vals).length) c1432], .row (tInt .i64) 2 A1460 y1458.length c1461 y1458, orA M32.blk (tInt .i64) 2 A1693 l1692.length c1694 l1692]) (fun b1701 => assizelaw09zLocalReads.j11 a0 a1 x1152 x1154 y1458 x1502 l1692 x1695 x1696 b1701) ?_ (fun hJ1702 => ?_)
                              · clear H hI
                                rintro b1701 _ _ ⟨_, rfl, hI⟩ H
                                replace H := cond_some H
                                rcases H with ⟨hc1703, H⟩ | ⟨hc1703, H⟩
                                · refine gt hc1703 (go_skip (go_seq (go_block ?_)))
                                  replace H := must_some H
                                  obtain ⟨g1716, H⟩ := H
                                  obtain ⟨b1717, rfl⟩ := hI.rowAt 3 rfl g1716
                                  replace H := bind_some H
                                  obtain ⟨y1718, hy1719, H⟩ := H
                                  refine go_held (fun w => Inv M32 w [.row kSpot 53 A30 y26.2.1.length c31 y26.2.1, .blk b68 61 [vI ((idx a0.Txns a1).Proc), vI ((idx a0.Txns a1).Status), vI ((idx a0.Txns a1).From), vI ((idx a0.Txns a1).To), vS (some ⟨b1429, q1430, none⟩) (((idx a0.Txns a1).Ops).length) c65], .blk b1435 63 [vI ((idx ((idx a0.Txns a1).Ops) x1154).Kind), vI ((idx ((idx a0.Txns a1).Ops) x1154).Key), vI ((idx ((idx a0.Txns a1).Ops) x1154).Arg), vB ((idx ((idx a0.Txns a1).Ops) x1154).Got), vS A1431 (((idx ((idx a0.Txns a1).Ops) x1154).Vals).length) c1432], .row (tInt .i64) 2 (some ⟨b1717, 0, none⟩) y1458.length c1461 y1458, orA M32.blk (tInt .i64) 2 A1693 l1692.length c1694 l1692]) (by kernel_rfl) ?_
                                  replace hI := hI.drew'
                                  refine hx (n := 6) [(0, .p), (1, .l 0 0), (2, .p), (3, .p), (4, .p), (5, .p), (6, .p), (7, .p), (8, .x), (9, .l 1 0)] (fun _ hS => (gB (hS.grp 2 rfl) ((rdS.flook (hS.row 3 rfl) (hS.rowlen 3 rfl) g1716).ok))) hI _ (bZ g1716) ?_
                                  refine ho (n := 5) 10 rfl (ec (enter15 _) (state_Apply_calls (w64 (((w64 (((idx ((idx a0.Txns a1).Ops) x1154).Kind) - 1)).tmod (4 : Int)) + 1)) A1693 c1694 l1692 (idx y1458 x1696) (memOf _) _ (Inv.start _) (hI.orrd 4 hI.fix rfl) (hI.orle 4 rfl) _ hy1719) ?_)
                                  rintro _ _ ⟨A1720, c1721, rfl, hI'⟩
                                  replace hI := hI.call0 hI'
                                  clear hI'
                                  refine ⟨_, rfl, ?_⟩
                                  refine ⟨(hI.pk [0, 1, 2, 3, 4]), ?_⟩
                                  refine hg (n := 0) [(11, .p), (12, .p), (13, .p), (14, .p), (15, .p)] (fun _ hS => gO) (hI.pk [0, 1, 2, 3, 4]) (hd (go_inBlock (rp 3 ?_)))
                                  exact hin2 _ (Option.some.inj H).symm _ _ ⟨_, A1720, c1721, at_, (Inv.toOr hI 5 M32.blk rfl).pick [0, 1, 2, 3, 5] (by decide) rfl⟩
                                · refine ge hc1703 ?_
                                  refine go_exit rfl ?_
                                  refine go_seq_join (o := o2) (fun b1725 f w => ∃ (j : Nat → Value), f = updL j [(1, vI a1), (5, vS (some ⟨b1521, q1522, none⟩) y26.1.length c29), (6, vS A30 y26.2.1.length c31), (8, vP b68 0), (9, vI (w64 (x1152 + 1))), (10, vI x1502), (11, vI x1154), (177, vB b1725)] ∧ Inv M32 w [.row kSpot 53 A30 y26.2.1.length c31 y26.2.1, .blk b68 61 [vI ((idx a0.Txns a1).Proc), vI ((idx a0.Txns a1).Status), vI ((idx a0.Txns a1).From), vI ((idx a0.Txns a1).To), vS (some ⟨b1429, q1430, none⟩) (((idx a0.Txns a1).Ops).length) c65]]) (fun b1725 => assizelaw09zLocalReads.j12 x1152 x1154 x1502 b1725) ?_ (fun hJ1726 => ?_)
                                  · clear H hI
                                    rintro b1725 _ _ ⟨_, rfl, hI⟩ H
                                    replace H := cond_some H
                                    rcases H with ⟨hc1727, H⟩ | ⟨hc1727, H⟩
                                    · refine gt hc1727 (go_seq (rp 1 ?_))
                                      replace H := out_some H
                                      obtain ⟨_, H, he2⟩ := H
                                      have he := (hout2 _ he2).symm
                                      subst he
                                      replace H := out_some H
                                      obtain ⟨_, H, he1⟩ := H
                                      have he := (hout1 _ he1).symm
                                      subst he
                                      replace H := Option.some.inj H
                                      subst H
                                      exact gr Try.func12 ⟨rfl, Inv.tail (hb35 _ _ (hI.pn))⟩
                                    · refine ge hc1727 (go_skip (go_inBlock ?_))
                                      replace H := out_some H
                                      obtain ⟨_, H, he2⟩ := H
                                      have he := (hout2 _ he2).symm
                                      subst he
                                      exact hJ1413 (w64 (x1152 + 1), x1502) _ _ ⟨_, at_, hI⟩ H
                                  · refine r_in ?_
                                    replace H := cond_some H
                                    rcases H with ⟨hc1728, H⟩ | ⟨hc1728, H⟩
                                    · refine bx 0 [.p, .p, .c true, .p, .p, .p, .p, .p, .p] gO _ (bZ (bndEq hc1728)) (ro ?_)
                                      exact hJ1726 true _ _ ⟨_, at_, hI.pick [0, 1] (by decide) rfl⟩ H
                                    · refine bx 0 [.p, .p, .c false, .p, .p, .l 0 4] (gA (hI.grp 2 rfl)) _ (bZ (bndEq hc1728)) ?_
                                      replace H := bind_some H
                                      obtain ⟨y1729, hy1730, H⟩ := H
                                      refine oe 6 rfl ?_
                                      refine ec (enter18 _) (assizeref03zSameVals_calls A1693 c1694 l1692 A1431 c1432 ((idx ((idx a0.Txns a1).Ops) x1154).Vals) (memOf _) _ (Inv.start _) (hI.orrd 4 hI.fix rfl) (hI.orle 4 rfl) (hI.rd hr1433) hl1434 _ hy1730) ?_
                                      rintro _ _ ⟨rfl, hI'⟩
                                      replace hI := hI.call0 hI'
                                      clear hI'
                                      refine ⟨_, rfl, ?_⟩
                                      refine bp 7 2 (ro ?_)
                                      exact hJ1726 (!y1729) _ _ ⟨_, at_, hI.pick [0, 1] (by decide) rfl⟩ H
                              · refine r_in ?_
                                replace H := cond_some H
                                rcases H with ⟨hc1731, H⟩ | ⟨hc1731, H⟩
                                · refine bx 0 [.p, .p, .p, .p, .c true, .p, .p, .p] gO _ (bZ (bndEq hc1731)) (ro ?_)
                                  exact hJ1702 (x1695 == 0) _ _ ⟨_, at_, hI⟩ H
                                · refine bx 0 [.p, .p, .p, .p, .c false, .p, .p, .p] gO _ (bZ (bndEq hc1731)) (ro ?_)
                                  exact hJ1702 false _ _ ⟨_, at_, hI⟩ H
                          · refine r_in ?_
                            replace H := cond_some H
                            rcases H with ⟨hc1732, H⟩ | ⟨hc1732, H⟩
                            · refine bx 0 [.p, .l 0 0, .p, .p, .c true, .p, .p, .p, .p, .p, .p] (gA (hI.grp 4 rfl)) _ (bZ (bndEq hc1732)) (ro ?_)
                              exact hJ1533 true _ _ ⟨_, at_, hI⟩ H
                            · refine bx 0 [.p, .l 0 0, .p, .p, .c false, .p, .l 0 2, .p, .l 1 1, .p, .p] (gB (hI.grp 4 rfl) (hI.grp 2 rfl)) _ (bZ (bndEq hc1732)) (ro ?_)
                              exact hJ1533 ((idx y26.1 x1152).Key != (idx ((idx a0.Txns a1).Ops) x1154).Key) _ _ ⟨_, at_, hI⟩ H
                      · refine go_seq (rp 1 ?_)
                        replace H := cond_some H
                        rcases H with ⟨hc1733, H⟩ | ⟨hc1733, H⟩
                        · refine gt hc1733 (rp 3 ?_)
                          exact hJ1503 (w64 (x1153 + 1)) _ _ ⟨_, at_, hI⟩ H
                        · refine ge hc1733 (go_skip ?_)
                          exact hJ1503 x1153 _ _ ⟨_, at_, hI⟩ H
                  · refine r_in ?_
                    replace H := cond_some H
                    rcases H with ⟨hc1734, H⟩ | ⟨hc1734, H⟩
                    · replace H := cond_some H
                      rcases H with ⟨hc1735, H⟩ | ⟨hc1735, H⟩
                      · refine bx 0 [.p, .c true, .p, .p, .c true, .p, .p, .p, .p, .p, .p, .p, .p, .p, .p, .p, .p, .p, .p, .p, .p, .p] gO _ (bC (bndEq hc1734) (bZ (bndEq hc1735))) (ro ?_)
                        exact hJ1499 true _ _ ⟨_, at_, hI⟩ H
                      · replace H := cond_some H
                        rcases H with ⟨hc1736, H⟩ | ⟨hc1736, H⟩
                        · replace H := cond_some H
                          rcases H with ⟨hc1737, H⟩ | ⟨hc1737, H⟩
                          · replace H := cond_some H
                            rcases H with ⟨hc1738, H⟩ | ⟨hc1738, H⟩
                            · refine bx 0 [.p, .c true, .p, .p, .c false, .p, .p, .c true, .p, .p, .p, .c true, .p, .l 0 0, .p, .c true, .p, .p, .p, .p, .p, .p] (gA (hI.grp 2 rfl)) _ (bC (bndEq hc1734) (bC (bndEq hc1735) (bC (bndEq hc1736) (bC (bndEq hc1737) (bZ (bndEq hc1738)))))) (ro ?_)
                              exact hJ1499 true _ _ ⟨_, at_, hI⟩ H
                            · refine bx 0 [.p, .c true, .p, .p, .c false, .p, .p, .c true, .p, .p, .p, .c true, .p, .l 0 0, .p, .c false, .p, .p, .p, .p, .p, .p] (gA (hI.grp 2 rfl)) _ (bC (bndEq hc1734) (bC (bndEq hc1735) (bC (bndEq hc1736) (bC (bndEq hc1737) (bZ (bndEq hc1738)))))) (ro ?_)
                              exact hJ1499 ((y1458.length : Int) == 0) _ _ ⟨_, at_, hI⟩ H
                          · refine bx 0 [.p, .c true, .p, .p, .c false, .p, .p, .c true, .p, .p, .p, .c false, .p, .p, .p, .p, .p, .p, .p, .p, .p, .p] gO _ (bC (bndEq hc1734) (bC (bndEq hc1735) (bC (bndEq hc1736) (bZ (bndEq hc1737))))) (ro ?_)
                            exact hJ1499 false _ _ ⟨_, at_, hI⟩ H
                        · refine bx 0 [.p, .c true, .p, .p, .c false, .p, .p, .c false, .p, .p, .p, .p, .p, .p, .p, .p, .p, .p, .p, .p, .p, .p] gO _ (bC (bndEq hc1734) (bC (bndEq hc1735) (bZ (bndEq hc1736)))) (ro ?_)
                          exact hJ1499 false _ _ ⟨_, at_, hI⟩ H
                    · replace H := cond_some H
                      rcases H with ⟨hc1739, H⟩ | ⟨hc1739, H⟩
                      · replace H := cond_some H
                        rcases H with ⟨hc1740, H⟩ | ⟨hc1740, H⟩
                        · replace H := cond_some H
                          rcases H with ⟨hc1741, H⟩ | ⟨hc1741, H⟩
                          · refine bx 0 [.p, .c false, .p, .p, .p, .p, .p, .c true, .p, .p, .p, .c true, .p, .l 0 0, .p, .c true, .p, .p, .p, .p, .p, .p] (gA (hI.grp 2 rfl)) _ (bC (bndEq hc1734) (bC (bndEq hc1739) (bC (bndEq hc1740) (bZ (bndEq hc1741))))) (ro ?_)
                            exact hJ1499 true _ _ ⟨_, at_, hI⟩ H
                          · refine bx 0 [.p, .c false, .p, .p, .p, .p, .p, .c true, .p, .p, .p, .c true, .p, .l 0 0, .p, .c false, .p, .p, .p, .p, .p, .p] (gA (hI.grp 2 rfl)) _ (bC (bndEq hc1734) (bC (bndEq hc1739) (bC (bndEq hc1740) (bZ (bndEq hc1741))))) (ro ?_)
                            exact hJ1499 ((y1458.length : Int) == 0) _ _ ⟨_, at_, hI⟩ H
                        · refine bx 0 [.p, .c false, .p, .p, .p, .p, .p, .c true, .p, .p, .p, .c false, .p, .p, .p, .p, .p, .p, .p, .p, .p, .p] gO _ (bC (bndEq hc1734) (bC (bndEq hc1739) (bZ (bndEq hc1740)))) (ro ?_)
                          exact hJ1499 false _ _ ⟨_, at_, hI⟩ H
                      · refine bx 0 [.p, .c false, .p, .p, .p, .p, .p, .c false, .p, .p, .p, .p, .p, .p, .p, .p, .p, .p, .p, .p, .p, .p] gO _ (bC (bndEq hc1734) (bZ (bndEq hc1739))) (ro ?_)
                        exact hJ1499 false _ _ ⟨_, at_, hI⟩ H
              · refine r_in ?_
                replace H := cond_some H
                rcases H with ⟨hc1742, H⟩ | ⟨hc1742, H⟩
                · refine bx 0 [.p, .l 0 0, .p, .c true, .p, .p, .p, .p] (gA (hI.grp 2 rfl)) _ (bZ (bndEq hc1742)) (ro ?_)
                  exact hJ1470 true _ _ ⟨_, at_, hI⟩ H
                · refine bx 0 [.p, .l 0 0, .p, .c false, .p, .l 1 1, .p, .p] (gB (hI.grp 2 rfl) (hI.grp 1 rfl)) _ (bZ (bndEq hc1742)) (ro ?_)
                  exact hJ1470 ((idx a0.Txns a1).Status != 1) _ _ ⟨_, at_, hI⟩ H
            · refine r_in ?_
              replace H := cond_some H
              rcases H with ⟨hc1743, H⟩ | ⟨hc1743, H⟩
              · replace H := must_some H
                obtain ⟨g1744, H⟩ := H
                obtain ⟨b1745, rfl⟩ := hI.rowAt 0 rfl g1744
                refine bx 0 [.p, .p, .p, .p, .c true, .p, .p, .x, .p, .l 0 1, .p, .p, .p, .p] (gA ((rdS.flook (hI.row 0 rfl) (hI.rowlen 0 rfl) g1744).ok)) _ (bC (bndEq hc1743) (bZ g1744)) (ro ?_)
                exact hJ1453 ((idx y26.2.1 x1153).Place == x1154) _ _ ⟨_, at_, hI⟩ H
              · refine bx 0 [.p, .p, .p, .p, .c false, .p, .p, .p, .p, .p, .p, .p, .p, .p] gO _ (bZ (bndEq hc1743)) (ro ?_)
                exact hJ1453 false _ _ ⟨_, at_, hI⟩ H
          · refine r_in ?_
            replace H := cond_some H
            rcases H with ⟨hc1746, H⟩ | ⟨hc1746, H⟩
            · replace H := must_some H
              obtain ⟨g1747, H⟩ := H
              obtain ⟨b1751, q1752, rfl, cs1750, hk1749, hg1748⟩ := rdS.open hr37 rfl g1747
              obtain ⟨_, _, rfl, rfl, ⟨_, _, rfl, rfl, ⟨_, _, rfl, rfl, ⟨A1753, c1754, rfl, hl1756, hr1755⟩⟩⟩⟩ := hk1749
              refine bx 0 [.p, .p, .p, .p, .c true, .p, .p, .x, .p, .l 0 1, .p, .p, .p, .p] (gA (hI.lies hg1748)) _ (bC (bndEq hc1746) (bZ g1747)) (ro ?_)
              exact hJ1448 ((idx y26.1 x1152).Place == x1154) _ _ ⟨_, at_, hI⟩ H
            · refine bx 0 [.p, .p, .p, .p, .c false, .p, .p, .p, .p, .p, .p, .p, .p, .p] gO _ (bZ (bndEq hc1746)) (ro ?_)
              exact hJ1448 false _ _ ⟨_, at_, hI⟩ H
      · refine ge hc1156 ?_
        refine go_exit rfl ?_
        refine go_seq (r_in ?_)
        replace H := cond_some H
        rcases H with ⟨hc1758, H⟩ | ⟨hc1758, H⟩
        · refine bx 0 [.p, .p, .p, .p, .c true, .p, .p, .p, .p, .p, .p] gO _ (bZ (bndEq hc1758)) (ro ?_)
          replace H := out_some H
          obtain ⟨_, H, he1⟩ := H
          have he := (hout1 _ he1).symm
          subst he
          replace H := Option.some.inj H
          subst H
          exact gr Try.func12 ⟨rfl, Inv.tail (hb35 _ _ (hI.pn))⟩
        · refine bx 0 [.p, .p, .p, .p, .c false, .p, .p, .p, .p, .p, .p] gO _ (bZ (bndEq hc1758)) (ro ?_)
          replace H := out_some H
          obtain ⟨_, H, he1⟩ := H
          have he := (hout1 _ he1).symm
          subst he
          replace H := Option.some.inj H
          subst H
          exact gr Try.func12 ⟨rfl, Inv.tail (hb35 _ _ (hI.pn))⟩

end Go.Proofs.YtmfihodpbladeaaT
