/- The walks, part 1: each call computes its plain function. -/
import Derived.Test.YtmfihodpbladeaaTD
import Derived.Test.YtmfihodpbladeaaProg
namespace Go.Proofs.YtmfihodpbladeaaT
open Go Go.Proofs Go.Proofs.YtmfihodpbladeaaE
set_option linter.unusedVariables false
set_option linter.unusedSimpArgs false
set_option maxHeartbeats 0
set_option maxRecDepth 4096
/-! ### state.of -/
theorem enter38 (a : Array Value) : Sem.pureRun Try.prog (callFunc 38 a) = some (.enter 38 a) := by kernel_rfl
theorem state_of_calls (a0 : Int) (M : Mem) (w : World) (hI : Inv M w []) (r : Int) (H : state_of a0 = some r) :
    Calls Try.prog 38 #[.int .i64 a0] w fun e w' => e = .returned (ifaceV r) ∧ Inv M w' [] := by
  refine calls_go (updL (fun _ => undef) [(0, .int .i64 a0)]) Try.func38 rfl (by kernel_rfl) ?_
  intro cs
  unfold state_of at H
  refine go_seq ?_
  refine r_in ?_
  refine o_batch 0 [] [.p] [(2, .nilIface)] [] trivial trivial (by kernel_rfl) (by kernel_rfl) (by kernel_rfl) ?_
  refine r_out (by kernel_rfl) ?_
  refine go_seq ?_
  refine go_seq ?_
  refine r_in ?_
  refine o_batch 0 [] [.p] [(3, .int .i64 a0)] [] trivial trivial (by kernel_rfl) (by kernel_rfl) (by kernel_rfl) ?_
  refine r_out (by kernel_rfl) ?_
  refine go_block ?_
  refine go_seq ?_
  refine r_in ?_
  refine o_batch 0 [] [.p, .p] [(5, .bool (a0 == 1)), (4, .bool (a0 == 1))] [] trivial trivial (by kernel_rfl) (by kernel_rfl) (by kernel_rfl) ?_
  refine r_out (by kernel_rfl) ?_
  replace H := cond_some H
  rcases H with ⟨hc9, H⟩ | ⟨hc9, H⟩
  · refine go_then' (t := (a0 == 1)) (by kernel_rfl) hc9 ?_
    refine go_seq ?_
    refine r_in ?_
    refine o_batch 0 [] [.p, .p, .p] [(6, .agg #[]), (7, .iface 83 (.agg #[])), (2, .iface 83 (.agg #[]))] [] trivial trivial (by kernel_rfl) (by kernel_rfl) (by kernel_rfl) ?_
    refine r_out (by kernel_rfl) ?_
    replace H := Option.some.inj H
    subst H
    exact go_return (.iface 83 (.agg #[])) Try.func38 (by kernel_rfl) ⟨rfl, hI⟩
  · refine go_else' (t := (a0 == 1)) (by kernel_rfl) hc9 ?_
    refine go_seq ?_
    refine r_in ?_
    refine o_batch 0 [] [.p, .p] [(9, .bool (a0 == 2)), (8, .bool (a0 == 2))] [] trivial trivial (by kernel_rfl) (by kernel_rfl) (by kernel_rfl) ?_
    refine r_out (by kernel_rfl) ?_
    replace H := cond_some H
    rcases H with ⟨hc10, H⟩ | ⟨hc10, H⟩
    · refine go_then' (t := (a0 == 2)) (by kernel_rfl) hc10 ?_
      refine go_seq ?_
      refine r_in ?_
      refine o_batch 0 [] [.p, .p, .p] [(10, .agg #[]), (11, .iface 84 (.agg #[])), (2, .iface 84 (.agg #[]))] [] trivial trivial (by kernel_rfl) (by kernel_rfl) (by kernel_rfl) ?_
      refine r_out (by kernel_rfl) ?_
      replace H := Option.some.inj H
      subst H
      exact go_return (.iface 84 (.agg #[])) Try.func38 (by kernel_rfl) ⟨rfl, hI⟩
    · refine go_else' (t := (a0 == 2)) (by kernel_rfl) hc10 ?_
      refine go_seq ?_
      refine r_in ?_
      refine o_batch 0 [] [.p, .p] [(13, .bool (a0 == 3)), (12, .bool (a0 == 3))] [] trivial trivial (by kernel_rfl) (by kernel_rfl) (by kernel_rfl) ?_
      refine r_out (by kernel_rfl) ?_
      replace H := cond_some H
      rcases H with ⟨hc11, H⟩ | ⟨hc11, H⟩
      · refine go_then' (t := (a0 == 3)) (by kernel_rfl) hc11 ?_
        refine go_seq ?_
        refine r_in ?_
        refine o_batch 0 [] [.p, .p, .p] [(14, .agg #[]), (15, .iface 85 (.agg #[])), (2, .iface 85 (.agg #[]))] [] trivial trivial (by kernel_rfl) (by kernel_rfl) (by kernel_rfl) ?_
        refine r_out (by kernel_rfl) ?_
        replace H := Option.some.inj H
        subst H
        exact go_return (.iface 85 (.agg #[])) Try.func38 (by kernel_rfl) ⟨rfl, hI⟩
      · refine go_else' (t := (a0 == 3)) (by kernel_rfl) hc11 ?_
        refine go_seq ?_
        refine r_in ?_
        refine o_batch 0 [] [.p, .p] [(17, .bool (a0 == 4)), (16, .bool (a0 == 4))] [] trivial trivial (by kernel_rfl) (by kernel_rfl) (by kernel_rfl) ?_
        refine r_out (by kernel_rfl) ?_
        replace H := cond_some H
        rcases H with ⟨hc12, H⟩ | ⟨hc12, H⟩
        · refine go_then' (t := (a0 == 4)) (by kernel_rfl) hc12 ?_
          refine go_seq ?_
          refine r_in ?_
          refine o_batch 0 [] [.p, .p, .p] [(18, .agg #[]), (19, .iface 86 (.agg #[])), (2, .iface 86 (.agg #[]))] [] trivial trivial (by kernel_rfl) (by kernel_rfl) (by kernel_rfl) ?_
          refine r_out (by kernel_rfl) ?_
          replace H := Option.some.inj H
          subst H
          exact go_return (.iface 86 (.agg #[])) Try.func38 (by kernel_rfl) ⟨rfl, hI⟩
        · refine go_else' (t := (a0 == 4)) (by kernel_rfl) hc12 ?_
          refine go_skip ?_
          refine go_inBlock ?_
          refine go_seq ?_
          refine r_in ?_
          refine o_batch 0 [] [.p] [(2, .nilIface)] [] trivial trivial (by kernel_rfl) (by kernel_rfl) (by kernel_rfl) ?_
          refine r_out (by kernel_rfl) ?_
          replace H := Option.some.inj H
          subst H
          exact go_return (.nilIface) Try.func38 (by kernel_rfl) ⟨rfl, hI⟩

/-! ### state.register .sound -/
theorem enter88 (a : Array Value) : Sem.pureRun Try.prog (callFunc 88 a) = some (.enter 88 a) := by kernel_rfl
theorem state_register_sound_calls (a0 : Unit) (A1z : Option Addr) (c1z : Nat) (a1 : List Int) (M : Mem) (w : World) (hI : Inv M w []) (hr1z : rdS (tInt .i64) M.blk A1z a1) (hl1z : a1.length ≤ c1z) (r : Bool) (H : state_register_sound a0 a1 = some r) :
    Calls Try.prog 88 #[.agg #[], .slice A1z a1.length c1z] w fun e w' => e = .returned (.bool r) ∧ Inv M w' [] := by
  refine calls_go (updL (fun _ => undef) [(0, .agg #[]), (1, .slice A1z a1.length c1z)]) Try.func88 rfl (by kernel_rfl) ?_
  intro cs
  unfold state_register_sound at H
  refine go_seq ?_
  refine r_in ?_
  refine o_eff 0 _ rfl (by kernel_rfl) ?_
  refine e_box 83 _ (.agg #[]) [] rfl (by kernel_rfl) rfl hI ?_
  clear hI
  intro b2 _ hI
  refine o_batch 1 [] [.p] [(4, .bool false)] [] trivial trivial (by kernel_rfl) (by kernel_rfl) (by kernel_rfl) ?_
  refine r_out (by kernel_rfl) ?_
  refine go_seq ?_
  refine r_in ?_
  refine o_batch 0 [] [.p, .p, .p, .p] [(5, .slice A1z a1.length c1z), (6, .int .i64 (a1.length : Int)), (7, .bool (decide ((a1.length : Int) ≤ 1))), (4, .bool (decide ((a1.length : Int) ≤ 1)))] [] trivial trivial (by kernel_rfl) (by kernel_rfl) (by kernel_rfl) ?_
  refine r_out (by kernel_rfl) ?_
  replace H := Option.some.inj H
  subst H
  exact go_return (.bool (decide ((a1.length : Int) ≤ 1))) Try.func88 (by kernel_rfl) ⟨rfl, hI.pick [] (by decide) rfl⟩

/-! ### state.list .sound -/
theorem enter92 (a : Array Value) : Sem.pureRun Try.prog (callFunc 92 a) = some (.enter 92 a) := by kernel_rfl
theorem state_list_sound_calls (a0 : Unit) (A1z : Option Addr) (c1z : Nat) (a1 : List Int) (M : Mem) (w : World) (hI : Inv M w []) (hr1z : rdS (tInt .i64) M.blk A1z a1) (hl1z : a1.length ≤ c1z) (r : Bool) (H : state_list_sound a0 a1 = some r) :
    Calls Try.prog 92 #[.agg #[], .slice A1z a1.length c1z] w fun e w' => e = .returned (.bool r) ∧ Inv M w' [] := by
  refine calls_go (updL (fun _ => undef) [(0, .agg #[]), (1, .slice A1z a1.length c1z)]) Try.func92 rfl (by kernel_rfl) ?_
  intro cs
  unfold state_list_sound at H
  refine go_seq ?_
  refine r_in ?_
  refine o_eff 0 _ rfl (by kernel_rfl) ?_
  refine e_box 84 _ (.agg #[]) [] rfl (by kernel_rfl) rfl hI ?_
  clear hI
  intro b2 _ hI
  refine o_batch 1 [] [.p] [(4, .bool false)] [] trivial trivial (by kernel_rfl) (by kernel_rfl) (by kernel_rfl) ?_
  refine r_out (by kernel_rfl) ?_
  refine go_seq ?_
  refine r_in ?_
  refine o_batch 0 [] [.p, .p, .p, .p] [(5, .slice A1z a1.length c1z), (6, .int .i64 (a1.length : Int)), (7, .bool (decide ((a1.length : Int) ≤ 64))), (4, .bool (decide ((a1.length : Int) ≤ 64)))] [] trivial trivial (by kernel_rfl) (by kernel_rfl) (by kernel_rfl) ?_
  refine r_out (by kernel_rfl) ?_
  replace H := Option.some.inj H
  subst H
  exact go_return (.bool (decide ((a1.length : Int) ≤ 64))) Try.func92 (by kernel_rfl) ⟨rfl, hI.pick [] (by decide) rfl⟩

/-! ### state.set .sound -/
theorem enter97 (a : Array Value) : Sem.pureRun Try.prog (callFunc 97 a) = some (.enter 97 a) := by kernel_rfl
theorem state_set_sound_calls (a0 : Unit) (A1z : Option Addr) (c1z : Nat) (a1 : List Int) (M : Mem) (w : World) (hI : Inv M w []) (hr1z : rdS (tInt .i64) M.blk A1z a1) (hl1z : a1.length ≤ c1z) (r : Bool) (H : state_set_sound a0 a1 = some r) :
    Calls Try.prog 97 #[.agg #[], .slice A1z a1.length c1z] w fun e w' => e = .returned (.bool r) ∧ Inv M w' [] := by
  refine calls_go (updL (fun _ => undef) [(0, .agg #[]), (1, .slice A1z a1.length c1z)]) Try.func97 rfl (by kernel_rfl) ?_
  intro cs
  unfold state_set_sound at H
  refine go_seq ?_
  refine r_in ?_
  refine o_eff 0 _ rfl (by kernel_rfl) ?_
  refine e_box 85 _ (.agg #[]) [] rfl (by kernel_rfl) rfl hI ?_
  clear hI
  intro b2 _ hI
  refine o_batch 1 [] [.p] [(4, .bool false)] [] trivial trivial (by kernel_rfl) (by kernel_rfl) (by kernel_rfl) ?_
  refine r_out (by kernel_rfl) ?_
  refine go_seq ?_
  refine go_seq ?_
  refine r_in ?_
  refine o_batch 0 [] [.p] [(5, .int .i64 1)] [] trivial trivial (by kernel_rfl) (by kernel_rfl) (by kernel_rfl) ?_
  refine r_out (by kernel_rfl) ?_
  refine go_block ?_
  refine go_iter (state_set_sound.s1 a1) (fun x68 f w => ∃ (j : Nat → Value), f = updL j [(1, .slice A1z a1.length c1z), (5, .int .i64 x68)] ∧ Inv M w []) H ⟨_, at_slots _ (by kernel_rfl), hI.pick [] (by decide) rfl⟩ ?_
  clear H hI
  rintro x68 _ _ o1 H ⟨_, rfl, hI⟩ hin1 hout1
  refine go_seq ?_
  refine go_seq ?_
  refine r_in ?_
  refine o_batch 0 [] [.p, .p, .p, .p] [(6, .int .i64 x68), (7, .slice A1z a1.length c1z), (8, .int .i64 (a1.length : Int)), (9, .bool (decide (x68 < (a1.length : Int))))] [] trivial trivial (by kernel_rfl) (by kernel_rfl) (by kernel_rfl) ?_
  refine r_out (by kernel_rfl) ?_
  replace H := cond_some H
  rcases H with ⟨hc70, H⟩ | ⟨hc70, H⟩
  · refine go_then' (t := decide (x68 < (a1.length : Int))) (by kernel_rfl) hc70 ?_
    refine go_skip ?_
    refine go_seq ?_
    refine go_block ?_
    refine go_seq ?_
    replace H := must_some H
    obtain ⟨g85, H⟩ := H
    obtain ⟨b86, q87, rfl, _⟩ := rdS.fopen hr1z rfl g85
    replace H := must_some H
    obtain ⟨g88, H⟩ := H
    refine d_still [(b86, q87 + (w64 (x68 - 1)).toNat * 1, [.int .i64 (idx a1 (w64 (x68 - 1)))]), (b86, q87 + x68.toNat * 1, [.int .i64 (idx a1 x68)])] [.p, .p, .p, .x, .l 0 0, .p, .p, .x, .l 1 0, .p] [(12, .slice (some ⟨b86, q87, none⟩) a1.length c1z), (13, .int .i64 x68), (14, .int .i64 (w64 (x68 - 1))), (15, .pointer (some ⟨b86, q87 + (w64 (x68 - 1)).toNat * 1, none⟩)), (16, .int .i64 (idx a1 (w64 (x68 - 1)))), (17, .slice (some ⟨b86, q87, none⟩) a1.length c1z), (18, .int .i64 x68), (19, .pointer (some ⟨b86, q87 + x68.toNat * 1, none⟩)), (20, .int .i64 (idx a1 x68)), (21, .bool (decide (idx a1 (w64 (x68 - 1)) ≥ idx a1 x68)))] [(w64 (x68 - 1), a1.length), (x68, a1.length)] (by kernel_rfl) (by kernel_rfl) rfl ⟨(hI.lies (rdS.flook hr1z rfl g85)), (hI.lies (rdS.flook hr1z rfl g88)), trivial⟩ ⟨g85, g88, trivial⟩ (by kernel_rfl) (by kernel_rfl) (by kernel_rfl) hI ?_
    clear hI
    intro _ hI
    replace H := cond_some H
    rcases H with ⟨hc89, H⟩ | ⟨hc89, H⟩
    · refine go_then' (t := decide (idx a1 (w64 (x68 - 1)) ≥ idx a1 x68)) (by kernel_rfl) hc89 ?_
      refine go_seq ?_
      refine r_in ?_
      refine o_batch 0 [] [.p] [(4, .bool false)] [] trivial trivial (by kernel_rfl) (by kernel_rfl) (by kernel_rfl) ?_
      refine r_out (by kernel_rfl) ?_
      replace H := out_some H
      obtain ⟨_, H, he1⟩ := H
      have he := (hout1 _ he1).symm
      subst he
      replace H := Option.some.inj H
      subst H
      exact go_return (.bool false) Try.func97 (by kernel_rfl) ⟨rfl, hI⟩
    · refine go_else' (t := decide (idx a1 (w64 (x68 - 1)) ≥ idx a1 x68)) (by kernel_rfl) hc89 ?_
      refine go_skip ?_
      refine go_inBlock ?_
      refine r_in ?_
      refine o_batch 0 [] [.p, .p, .p] [(10, .int .i64 x68), (11, .int .i64 (w64 (x68 + 1))), (5, .int .i64 (w64 (x68 + 1)))] [] trivial trivial (by kernel_rfl) (by kernel_rfl) (by kernel_rfl) ?_
      refine r_out (by kernel_rfl) ?_
      exact hin1 _ (Option.some.inj H).symm _ _ ⟨_, at_slots _ (by kernel_rfl), hI⟩
  · refine go_else' (t := decide (x68 < (a1.length : Int))) (by kernel_rfl) hc70 ?_
    refine go_exit rfl ?_
    refine go_seq ?_
    refine r_in ?_
    refine o_batch 0 [] [.p, .p, .p, .p] [(22, .slice A1z a1.length c1z), (23, .int .i64 (a1.length : Int)), (24, .bool (decide ((a1.length : Int) ≤ 64))), (4, .bool (decide ((a1.length : Int) ≤ 64)))] [] trivial trivial (by kernel_rfl) (by kernel_rfl) (by kernel_rfl) ?_
    refine r_out (by kernel_rfl) ?_
    replace H := out_some H
    obtain ⟨_, H, he1⟩ := H
    have he := (hout1 _ he1).symm
    subst he
    replace H := Option.some.inj H
    subst H
    exact go_return (.bool (decide ((a1.length : Int) ≤ 64))) Try.func97 (by kernel_rfl) ⟨rfl, hI⟩

/-! ### state.counter .sound -/
theorem enter111 (a : Array Value) : Sem.pureRun Try.prog (callFunc 111 a) = some (.enter 111 a) := by kernel_rfl
theorem state_counter_sound_calls (a0 : Unit) (A1z : Option Addr) (c1z : Nat) (a1 : List Int) (M : Mem) (w : World) (hI : Inv M w []) (hr1z : rdS (tInt .i64) M.blk A1z a1) (hl1z : a1.length ≤ c1z) (r : Bool) (H : state_counter_sound a0 a1 = some r) :
    Calls Try.prog 111 #[.agg #[], .slice A1z a1.length c1z] w fun e w' => e = .returned (.bool r) ∧ Inv M w' [] := by
  refine calls_go (updL (fun _ => undef) [(0, .agg #[]), (1, .slice A1z a1.length c1z)]) Try.func111 rfl (by kernel_rfl) ?_
  intro cs
  unfold state_counter_sound at H
  refine go_seq ?_
  refine r_in ?_
  refine o_eff 0 _ rfl (by kernel_rfl) ?_
  refine e_box 86 _ (.agg #[]) [] rfl (by kernel_rfl) rfl hI ?_
  clear hI
  intro b2 _ hI
  refine o_batch 1 [] [.p] [(4, .bool false)] [] trivial trivial (by kernel_rfl) (by kernel_rfl) (by kernel_rfl) ?_
  refine r_out (by kernel_rfl) ?_
  refine go_seq ?_
  refine r_in ?_
  refine o_batch 0 [] [.p, .p, .p, .p] [(5, .slice A1z a1.length c1z), (6, .int .i64 (a1.length : Int)), (7, .bool ((a1.length : Int) == 1)), (4, .bool ((a1.length : Int) == 1))] [] trivial trivial (by kernel_rfl) (by kernel_rfl) (by kernel_rfl) ?_
  refine r_out (by kernel_rfl) ?_
  replace H := Option.some.inj H
  subst H
  exact go_return (.bool ((a1.length : Int) == 1)) Try.func111 (by kernel_rfl) ⟨rfl, hI.pick [] (by decide) rfl⟩

/-! ### state.Check -/
theorem enter21 (a : Array Value) : Sem.pureRun Try.prog (callFunc 21 a) = some (.enter 21 a) := by kernel_rfl
theorem state_Check_calls (a0 : Int) (A1z : Option Addr) (c1z : Nat) (a1 : List Int) (M : Mem) (w : World) (hI : Inv M w []) (hr1z : rdS (tInt .i64) M.blk A1z a1) (hl1z : a1.length ≤ c1z) (r : Int) (H : state_Check a0 a1 = some r) :
    Calls Try.prog 21 #[.int .i64 a0, .slice A1z a1.length c1z] w fun e w' => e = .returned (.int .i64 r) ∧ Inv M w' [] := by
  refine calls_go (updL (fun _ => undef) [(0, .int .i64 a0), (1, .slice A1z a1.length c1z)]) Try.func21 rfl (by kernel_rfl) ?_
  intro cs
  unfold state_Check at H
  refine go_seq ?_
  refine r_in ?_
  refine o_batch 0 [] [.p] [(4, .int .i64 0)] [] trivial trivial (by kernel_rfl) (by kernel_rfl) (by kernel_rfl) ?_
  refine r_out (by kernel_rfl) ?_
  refine go_seq ?_
  refine r_in ?_
  refine o_batch 0 [] [.p] [(6, .int .i64 a0)] [] trivial trivial (by kernel_rfl) (by kernel_rfl) (by kernel_rfl) ?_
  replace H := bind_some H
  obtain ⟨y8, hy9, H⟩ := H
  refine o_eff 1 _ rfl (by kernel_rfl) ?_
  refine e_callf _ _ _ 38 #[] #[] #[.int .i64 a0] #[.int .i64 a0] rfl (by kernel_rfl) (by kernel_rfl) (by kernel_rfl) (enter38 _) (state_of_calls a0 (memOf _) _ (Inv.start _) _ hy9) ?_
  rintro _ _ ⟨rfl, hI'⟩
  replace hI := hI.call0 hI'
  clear hI'
  refine ⟨_, rfl, ?_⟩
  replace H := cond_some H
  rcases H with ⟨hc10, H⟩ | ⟨hc10, H⟩
  · refine o_is 7 (ifaceV y8) (.iface 83 (.agg #[])) (by kernel_rfl) (congrArg ifaceV (eq_of_beq hc10)) ?_
    refine o_batch 2 [] [.p] [(5, .iface 83 (.agg #[]))] [] trivial trivial (by kernel_rfl) (by kernel_rfl) (by kernel_rfl) ?_
    refine r_out (by kernel_rfl) ?_
    refine go_seq ?_
    refine go_block ?_
    refine go_seq ?_
    refine r_in ?_
    refine o_batch 0 [] [.p, .p, .p] [(9, .iface 83 (.agg #[])), (10, .bool false), (8, .bool false)] [] trivial trivial (by kernel_rfl) (by kernel_rfl) (by kernel_rfl) ?_
    refine r_out (by kernel_rfl) ?_
    refine go_else (by kernel_rfl) ?_
    refine go_seq ?_
    refine r_in ?_
    refine o_batch 0 [] [.p, .p] [(12, .iface 83 (.agg #[])), (13, .slice A1z a1.length c1z)] [] trivial trivial (by kernel_rfl) (by kernel_rfl) (by kernel_rfl) ?_
    replace H := bind_some H
    obtain ⟨y19, hy20, H⟩ := H
    refine o_eff 2 _ rfl (by kernel_rfl) ?_
    refine e_enter 88 #[.agg #[], .slice A1z a1.length c1z] (by kernel_rfl) (state_register_sound_calls () A1z c1z a1 (memOf _) _ (Inv.start _) (hI.rd hr1z) hl1z _ hy20) ?_
    rintro _ _ ⟨rfl, hI'⟩
    replace hI := hI.call0 hI'
    clear hI'
    refine ⟨_, rfl, ?_⟩
    refine o_batch 3 [] [.p, .p] [(15, .bool (!y19)), (11, .bool (!y19))] [] trivial trivial (by kernel_rfl) (by kernel_rfl) (by kernel_rfl) ?_
    refine r_out (by kernel_rfl) ?_
    replace H := cond_some H
    rcases H with ⟨hc21, H⟩ | ⟨hc21, H⟩
    · refine go_then' (t := !y19) (by kernel_rfl) hc21 ?_
      refine go_seq ?_
      refine r_in ?_
      refine o_batch 0 [] [.p] [(4, .int .i64 80)] [] trivial trivial (by kernel_rfl) (by kernel_rfl) (by kernel_rfl) ?_
      refine r_out (by kernel_rfl) ?_
      replace H := Option.some.inj H
      subst H
      exact go_return (.int .i64 80) Try.func21 (by kernel_rfl) ⟨rfl, hI⟩
    · refine go_else' (t := !y19) (by kernel_rfl) hc21 ?_
      refine go_skip ?_
      refine go_inBlock ?_
      refine go_seq ?_
      refine r_in ?_
      refine o_batch 0 [] [.p] [(4, .int .i64 0)] [] trivial trivial (by kernel_rfl) (by kernel_rfl) (by kernel_rfl) ?_
      refine r_out (by kernel_rfl) ?_
      replace H := Option.some.inj H
      subst H
      exact go_return (.int .i64 0) Try.func21 (by kernel_rfl) ⟨rfl, hI⟩
  · replace H := cond_some H
    rcases H with ⟨hc22, H⟩ | ⟨hc22, H⟩
    · refine o_is 7 (ifaceV y8) (.iface 84 (.agg #[])) (by kernel_rfl) (congrArg ifaceV (eq_of_beq hc22)) ?_
      refine o_batch 2 [] [.p] [(5, .iface 84 (.agg #[]))] [] trivial trivial (by kernel_rfl) (by kernel_rfl) (by kernel_rfl) ?_
      refine r_out (by kernel_rfl) ?_
      refine go_seq ?_
      refine go_block ?_
      refine go_seq ?_
      refine r_in ?_
      refine o_batch 0 [] [.p, .p, .p] [(9, .iface 84 (.agg #[])), (10, .bool false), (8, .bool false)] [] trivial trivial (by kernel_rfl) (by kernel_rfl) (by kernel_rfl) ?_
      refine r_out (by kernel_rfl) ?_
      refine go_else (by kernel_rfl) ?_
      refine go_seq ?_
      refine r_in ?_
      refine o_batch 0 [] [.p, .p] [(12, .iface 84 (.agg #[])), (13, .slice A1z a1.length c1z)] [] trivial trivial (by kernel_rfl) (by kernel_rfl) (by kernel_rfl) ?_
      replace H := bind_some H
      obtain ⟨y31, hy32, H⟩ := H
      refine o_eff 2 _ rfl (by kernel_rfl) ?_
      refine e_enter 92 #[.agg #[], .slice A1z a1.length c1z] (by kernel_rfl) (state_list_sound_calls () A1z c1z a1 (memOf _) _ (Inv.start _) (hI.rd hr1z) hl1z _ hy32) ?_
      rintro _ _ ⟨rfl, hI'⟩
      replace hI := hI.call0 hI'
      clear hI'
      refine ⟨_, rfl, ?_⟩
      refine o_batch 3 [] [.p, .p] [(15, .bool (!y31)), (11, .bool (!y31))] [] trivial trivial (by kernel_rfl) (by kernel_rfl) (by kernel_rfl) ?_
      refine r_out (by kernel_rfl) ?_
      replace H := cond_some H
      rcases H with ⟨hc33, H⟩ | ⟨hc33, H⟩
      · refine go_then' (t := !y31) (by kernel_rfl) hc33 ?_
        refine go_seq ?_
        refine r_in ?_
        refine o_batch 0 [] [.p] [(4, .int .i64 80)] [] trivial trivial (by kernel_rfl) (by kernel_rfl) (by kernel_rfl) ?_
        refine r_out (by kernel_rfl) ?_
        replace H := Option.some.inj H
        subst H
        exact go_return (.int .i64 80) Try.func21 (by kernel_rfl) ⟨rfl, hI⟩
      · refine go_else' (t := !y31) (by kernel_rfl) hc33 ?_
        refine go_skip ?_
        refine go_inBlock ?_
        refine go_seq ?_
        refine r_in ?_
        refine o_batch 0 [] [.p] [(4, .int .i64 0)] [] trivial trivial (by kernel_rfl) (by kernel_rfl) (by kernel_rfl) ?_
        refine r_out (by kernel_rfl) ?_
        replace H := Option.some.inj H
        subst H
        exact go_return (.int .i64 0) Try.func21 (by kernel_rfl) ⟨rfl, hI⟩
    · replace H := cond_some H
      rcases H with ⟨hc34, H⟩ | ⟨hc34, H⟩
      · refine o_is 7 (ifaceV y8) (.iface 85 (.agg #[])) (by kernel_rfl) (congrArg ifaceV (eq_of_beq hc34)) ?_
        refine o_batch 2 [] [.p] [(5, .iface 85 (.agg #[]))] [] trivial trivial (by kernel_rfl) (by kernel_rfl) (by kernel_rfl) ?_
        refine r_out (by kernel_rfl) ?_
        refine go_seq ?_
        refine go_block ?_
        refine go_seq ?_
        refine r_in ?_
        refine o_batch 0 [] [.p, .p, .p] [(9, .iface 85 (.agg #[])), (10, .bool false), (8, .bool false)] [] trivial trivial (by kernel_rfl) (by kernel_rfl) (by kernel_rfl) ?_
        refine r_out (by kernel_rfl) ?_
        refine go_else (by kernel_rfl) ?_
        refine go_seq ?_
        refine r_in ?_
        refine o_batch 0 [] [.p, .p] [(12, .iface 85 (.agg #[])), (13, .slice A1z a1.length c1z)] [] trivial trivial (by kernel_rfl) (by kernel_rfl) (by kernel_rfl) ?_
        replace H := bind_some H
        obtain ⟨y43, hy44, H⟩ := H
        refine o_eff 2 _ rfl (by kernel_rfl) ?_
        refine e_enter 97 #[.agg #[], .slice A1z a1.length c1z] (by kernel_rfl) (state_set_sound_calls () A1z c1z a1 (memOf _) _ (Inv.start _) (hI.rd hr1z) hl1z _ hy44) ?_
        rintro _ _ ⟨rfl, hI'⟩
        replace hI := hI.call0 hI'
        clear hI'
        refine ⟨_, rfl, ?_⟩
        refine o_batch 3 [] [.p, .p] [(15, .bool (!y43)), (11, .bool (!y43))] [] trivial trivial (by kernel_rfl) (by kernel_rfl) (by kernel_rfl) ?_
        refine r_out (by kernel_rfl) ?_
        replace H := cond_some H
        rcases H with ⟨hc45, H⟩ | ⟨hc45, H⟩
        · refine go_then' (t := !y43) (by kernel_rfl) hc45 ?_
          refine go_seq ?_
          refine r_in ?_
          refine o_batch 0 [] [.p] [(4, .int .i64 80)] [] trivial trivial (by kernel_rfl) (by kernel_rfl) (by kernel_rfl) ?_
          refine r_out (by kernel_rfl) ?_
          replace H := Option.some.inj H
          subst H
          exact go_return (.int .i64 80) Try.func21 (by kernel_rfl) ⟨rfl, hI⟩
        · refine go_else' (t := !y43) (by kernel_rfl) hc45 ?_
          refine go_skip ?_
          refine go_inBlock ?_
          refine go_seq ?_
          refine r_in ?_
          refine o_batch 0 [] [.p] [(4, .int .i64 0)] [] trivial trivial (by kernel_rfl) (by kernel_rfl) (by kernel_rfl) ?_
          refine r_out (by kernel_rfl) ?_
          replace H := Option.some.inj H
          subst H
          exact go_return (.int .i64 0) Try.func21 (by kernel_rfl) ⟨rfl, hI⟩
      · replace H := cond_some H
        rcases H with ⟨hc46, H⟩ | ⟨hc46, H⟩
        · refine o_is 7 (ifaceV y8) (.iface 86 (.agg #[])) (by kernel_rfl) (congrArg ifaceV (eq_of_beq hc46)) ?_
          refine o_batch 2 [] [.p] [(5, .iface 86 (.agg #[]))] [] trivial trivial (by kernel_rfl) (by kernel_rfl) (by kernel_rfl) ?_
          refine r_out (by kernel_rfl) ?_
          refine go_seq ?_
          refine go_block ?_
          refine go_seq ?_
          refine r_in ?_
          refine o_batch 0 [] [.p, .p, .p] [(9, .iface 86 (.agg #[])), (10, .bool false), (8, .bool false)] [] trivial trivial (by kernel_rfl) (by kernel_rfl) (by kernel_rfl) ?_
          refine r_out (by kernel_rfl) ?_
          refine go_else (by kernel_rfl) ?_
          refine go_seq ?_
          refine r_in ?_
          refine o_batch 0 [] [.p, .p] [(12, .iface 86 (.agg #[])), (13, .slice A1z a1.length c1z)] [] trivial trivial (by kernel_rfl) (by kernel_rfl) (by kernel_rfl) ?_
          replace H := bind_some H
          obtain ⟨y55, hy56, H⟩ := H
          refine o_eff 2 _ rfl (by kernel_rfl) ?_
          refine e_enter 111 #[.agg #[], .slice A1z a1.length c1z] (by kernel_rfl) (state_counter_sound_calls () A1z c1z a1 (memOf _) _ (Inv.start _) (hI.rd hr1z) hl1z _ hy56) ?_
          rintro _ _ ⟨rfl, hI'⟩
          replace hI := hI.call0 hI'
          clear hI'
          refine ⟨_, rfl, ?_⟩
          refine o_batch 3 [] [.p, .p] [(15, .bool (!y55)), (11, .bool (!y55))] [] trivial trivial (by kernel_rfl) (by kernel_rfl) (by kernel_rfl) ?_
          refine r_out (by kernel_rfl) ?_
          replace H := cond_some H
          rcases H with ⟨hc57, H⟩ | ⟨hc57, H⟩
          · refine go_then' (t := !y55) (by kernel_rfl) hc57 ?_
            refine go_seq ?_
            refine r_in ?_
            refine o_batch 0 [] [.p] [(4, .int .i64 80)] [] trivial trivial (by kernel_rfl) (by kernel_rfl) (by kernel_rfl) ?_
            refine r_out (by kernel_rfl) ?_
            replace H := Option.some.inj H
            subst H
            exact go_return (.int .i64 80) Try.func21 (by kernel_rfl) ⟨rfl, hI⟩
          · refine go_else' (t := !y55) (by kernel_rfl) hc57 ?_
            refine go_skip ?_
            refine go_inBlock ?_
            refine go_seq ?_
            refine r_in ?_
            refine o_batch 0 [] [.p] [(4, .int .i64 0)] [] trivial trivial (by kernel_rfl) (by kernel_rfl) (by kernel_rfl) ?_
            refine r_out (by kernel_rfl) ?_
            replace H := Option.some.inj H
            subst H
            exact go_return (.int .i64 0) Try.func21 (by kernel_rfl) ⟨rfl, hI⟩
        · replace H := cond_some H
          rcases H with ⟨hc58, H⟩ | ⟨hc58, H⟩
          · refine o_is 7 (ifaceV y8) (.nilIface) (by kernel_rfl) (congrArg ifaceV (eq_of_beq hc58)) ?_
            refine o_batch 2 [] [.p] [(5, .nilIface)] [] trivial trivial (by kernel_rfl) (by kernel_rfl) (by kernel_rfl) ?_
            refine r_out (by kernel_rfl) ?_
            refine go_seq ?_
            refine go_block ?_
            refine go_seq ?_
            refine r_in ?_
            refine o_batch 0 [] [.p, .p, .p] [(9, .nilIface), (10, .bool true), (8, .bool true)] [] trivial trivial (by kernel_rfl) (by kernel_rfl) (by kernel_rfl) ?_
            refine r_out (by kernel_rfl) ?_
            refine go_then (by kernel_rfl) ?_
            refine go_seq ?_
            refine r_in ?_
            refine o_batch 0 [] [.p] [(4, .int .i64 1)] [] trivial trivial (by kernel_rfl) (by kernel_rfl) (by kernel_rfl) ?_
            refine r_out (by kernel_rfl) ?_
            replace H := Option.some.inj H
            subst H
            exact go_return (.int .i64 1) Try.func21 (by kernel_rfl) ⟨rfl, hI⟩
          · cases H

/-! ### state.register .with -/
theorem enter90 (a : Array Value) : Sem.pureRun Try.prog (callFunc 90 a) = some (.enter 90 a) := by kernel_rfl
theorem state_register_with_calls (a0 : Unit) (A1z : Option Addr) (c1z : Nat) (a1 : List Int) (a2 : Int) (M : Mem) (w : World) (hI : Inv M w []) (hr1z : rdS (tInt .i64) M.blk A1z a1) (hl1z : a1.length ≤ c1z) (r : List Int) (H : state_register_with a0 a1 a2 = some r) :
    Calls Try.prog 90 #[.agg #[], .slice A1z a1.length c1z, .int .i64 a2] w fun e w' => ∃ (A6 : Option Addr) (c7 : Nat), e = .returned (.slice A6 r.length c7) ∧ Inv M w' [.row (tInt .i64) 2 A6 r.length c7 r] := by
  refine calls_go (updL (fun _ => undef) [(0, .agg #[]), (1, .slice A1z a1.length c1z), (2, .int .i64 a2)]) Try.func90 rfl (by kernel_rfl) ?_
  intro cs
  unfold state_register_with at H
  refine go_seq ?_
  refine r_in ?_
  refine o_eff 0 _ rfl (by kernel_rfl) ?_
  refine e_box 83 _ (.agg #[]) [] rfl (by kernel_rfl) rfl hI ?_
  clear hI
  intro b2 _ hI
  refine o_batch 1 [] [.p] [(6, .slice none 0 0)] [] trivial trivial (by kernel_rfl) (by kernel_rfl) (by kernel_rfl) ?_
  refine r_out (by kernel_rfl) ?_
  refine go_seq ?_
  refine r_in ?_
  refine o_batch 0 [] [.p] [(7, .int .i64 a2)] [] trivial trivial (by kernel_rfl) (by kernel_rfl) (by kernel_rfl) ?_
  refine o_eff 1 _ rfl (by kernel_rfl) ?_
  refine e_parts 22 2 1 _ _ _ #[.int .i64 a2] [.int .i64 a2] rfl rfl rfl rfl (by kernel_rfl) (by kernel_rfl) (by kernel_rfl) (by kernel_rfl) hI ?_
  clear hI
  intro b4 _ hI
  replace hI := hI.asrow (k := (tInt .i64)) (xs := ([a2] : List Int)) (cs := [.int .i64 a2]) (R := []) (L' := [.blk b2 83 []]) 1 1 [] [0] (by decide) rfl (mks_cons (mk_flat (k := (tInt .i64)) a2 [.int .i64 a2] rfl) mks_nil) rfl rfl (by kernel_rfl)
  refine o_batch 2 [] [.p] [(6, .slice (some ⟨b4, 0, none⟩) 1 1)] [] trivial trivial (by kernel_rfl) (by kernel_rfl) (by kernel_rfl) ?_
  refine r_out (by kernel_rfl) ?_
  refine go_is 6 (.slice (some ⟨b4, 0, none⟩) 1 1) (.slice (some ⟨b4, 0, none⟩) (([a2] : List Int).length) 1) (by kernel_rfl) (by first | rfl | simp only [List.length_set, List.length_replicate, List.length_nil]) ?_
  replace hI := hI.renum 0 rfl
  replace H := Option.some.inj H
  subst H
  exact go_return (.slice (some ⟨b4, 0, none⟩) (([a2] : List Int).length) 1) Try.func90 (by kernel_rfl) ⟨(some ⟨b4, 0, none⟩), 1, rfl, hI.pick [0] (by decide) rfl⟩

/-! ### slices.Clone   int64 int64  -/
theorem enter52 (a : Array Value) : Sem.pureRun Try.prog (callFunc 52 a) = some (.enter 52 a) := by kernel_rfl
theorem slices_Clone_int64zcalls (A0z : Option Addr) (c0z : Nat) (a0 : List Int) (M : Mem) (w : World) (hI : Inv M w []) (hr0z : rdS (tInt .i64) M.blk A0z a0) (hl0z : a0.length ≤ c0z) (r : List Int) (H : slices_Clone_int64 a0 = some r) :
    Calls Try.prog 52 #[.slice A0z a0.length c0z] w fun e w' => ∃ (A : Option Addr) (c : Nat), e = .returned (.slice A r.length c) ∧ Inv M w' [.row (tInt .i64) 2 A r.length c r] := by
  refine calls_go (updL (fun _ => undef) [(0, .slice A0z a0.length c0z)]) Try.func52 rfl (by kernel_rfl) ?_
  intro cs
  unfold slices_Clone_int64 at H
  replace H := must_some H
  obtain ⟨g, H⟩ := H
  replace H := Option.some.inj H
  subst H
  repeat refine go_seq ?_
  refine r_in ?_
  refine o_batch 0 [] [.p] [(2, .slice none 0 0)] [] trivial trivial (by kernel_rfl) (by kernel_rfl) (by kernel_rfl) ?_
  refine r_out (by kernel_rfl) ?_
  cases A0z with
  | none =>
    have hn : a0 = [] := by
      rcases hr0z with h | ⟨b, o, h, _⟩
      · exact h
      · cases h
    subst hn
    repeat refine go_seq ?_
    refine r_in ?_
    refine o_batch 0 [] [.p, .p] [(3, .slice none 0 c0z), (4, .bool true)] [] trivial trivial (by kernel_rfl) (by kernel_rfl) (by kernel_rfl) ?_
    refine r_out (by kernel_rfl) ?_
    refine go_then (by kernel_rfl) ?_
    repeat refine go_seq ?_
    refine r_in ?_
    refine o_batch 0 [] [.p] [(2, .slice none 0 0)] [] trivial trivial (by kernel_rfl) (by kernel_rfl) (by kernel_rfl) ?_
    refine r_out (by kernel_rfl) ?_
    exact go_return (.slice none 0 0) Try.func52 (by kernel_rfl) ⟨none, 0, rfl, hI.nilrow (tInt .i64) 2⟩
  | some a =>
    repeat refine go_seq ?_
    refine r_in ?_
    refine o_batch 0 [] [.p, .p] [(3, .slice (some a) a0.length c0z), (4, .bool false)] [] trivial trivial (by kernel_rfl) (by kernel_rfl) (by kernel_rfl) ?_
    refine r_out (by kernel_rfl) ?_
    refine go_else (by kernel_rfl) ?_
    refine go_skip ?_
    repeat refine go_seq ?_
    refine r_in ?_
    refine o_eff 0 _ rfl (by kernel_rfl) ?_
    refine e_empty (α := Int) (tInt .i64) 22 2 _ rfl rfl rfl hI ?_
    clear hI
    intro b _ hI
    refine o_batch 1 [] [.p] [(6, .slice (some a) a0.length c0z)] [] trivial trivial (by kernel_rfl) (by kernel_rfl) (by kernel_rfl) ?_
    refine o_eff 2 _ rfl (by kernel_rfl) ?_
    refine e_append_rd (kt := (tInt .i64)) 22 0 2 _ _ _ _ (some ⟨b, 0, none⟩) (some a) 0 0 ([] : List Int) a0 c0z 0 [] [] rfl (by kernel_rfl) (by kernel_rfl) rfl rfl rfl rfl rfl (by kernel_rfl) hI (by decide) rfl (hI.rd hr0z) ⟨by rw [Nat.zero_add]; exact g, by have : 0 + a0.length ≤ (0 + a0.length) * 8 := Nat.le_mul_of_pos_right _ (by decide); omega⟩ ?_
    clear hI
    intro A c _ hI
    refine o_batch 3 [] [.p] [(2, .slice A a0.length c)] [] trivial trivial (by kernel_rfl) (by kernel_rfl) (by kernel_rfl) ?_
    refine r_out (by kernel_rfl) ?_
    exact go_return (.slice A a0.length c) Try.func52 (by kernel_rfl) ⟨A, c, rfl, hI⟩

/-! ### state.list .with -/
theorem enter94 (a : Array Value) : Sem.pureRun Try.prog (callFunc 94 a) = some (.enter 94 a) := by kernel_rfl
theorem state_list_with_calls (a0 : Unit) (A1z : Option Addr) (c1z : Nat) (a1 : List Int) (a2 : Int) (M : Mem) (w : World) (hI : Inv M w []) (hr1z : rdS (tInt .i64) M.blk A1z a1) (hl1z : a1.length ≤ c1z) (r : List Int) (H : state_list_with a0 a1 a2 = some r) :
    Calls Try.prog 94 #[.agg #[], .slice A1z a1.length c1z, .int .i64 a2] w fun e w' => ∃ (A20 : Option Addr) (c21 : Nat), e = .returned (.slice A20 r.length c21) ∧ Inv M w' [.row (tInt .i64) 2 A20 r.length c21 r] := by
  refine calls_go (updL (fun _ => undef) [(0, .agg #[]), (1, .slice A1z a1.length c1z), (2, .int .i64 a2)]) Try.func94 rfl (by kernel_rfl) ?_
  intro cs
  unfold state_list_with at H
  refine go_seq ?_
  refine r_in ?_
  refine o_eff 0 _ rfl (by kernel_rfl) ?_
  refine e_box 84 _ (.agg #[]) [] rfl (by kernel_rfl) rfl hI ?_
  clear hI
  intro b2 _ hI
  refine o_batch 1 [] [.p] [(6, .slice none 0 0)] [] trivial trivial (by kernel_rfl) (by kernel_rfl) (by kernel_rfl) ?_
  refine r_out (by kernel_rfl) ?_
  refine go_seq ?_
  refine r_in ?_
  refine o_batch 0 [] [.p] [(7, .slice A1z a1.length c1z)] [] trivial trivial (by kernel_rfl) (by kernel_rfl) (by kernel_rfl) ?_
  replace H := bind_some H
  obtain ⟨y11, hy12, H⟩ := H
  refine o_eff 1 _ rfl (by kernel_rfl) ?_
  refine e_callf _ _ _ 52 #[] #[] #[.slice A1z a1.length c1z] #[.slice A1z a1.length c1z] rfl (by kernel_rfl) (by kernel_rfl) (by kernel_rfl) (enter52 _) (slices_Clone_int64zcalls A1z c1z a1 (memOf _) _ (Inv.start _) (hI.rd hr1z) hl1z _ hy12) ?_
  rintro _ _ ⟨A13, c14, rfl, hI'⟩
  replace hI := hI.call0 hI'
  clear hI'
  refine ⟨_, rfl, ?_⟩
  refine o_batch 2 [] [.p] [(9, .int .i64 a2)] [] trivial trivial (by kernel_rfl) (by kernel_rfl) (by kernel_rfl) ?_
  refine o_eff 3 _ rfl (by kernel_rfl) ?_
  refine e_parts 22 2 1 _ _ _ #[.int .i64 a2] [.int .i64 a2] rfl rfl rfl rfl (by kernel_rfl) (by kernel_rfl) (by kernel_rfl) (by kernel_rfl) hI ?_
  clear hI
  intro b15 _ hI
  replace H := must_some H
  obtain ⟨g16, H⟩ := H
  refine o_eff 4 _ rfl (by kernel_rfl) ?_
  refine e_append (tInt .i64) 22 0 2 _ _ _ _ A13 y11.length c14 y11 ([a2] : List Int) b15 0 1 1 [.int .i64 a2] 1 [] [0, 2] [] [.blk b2 84 [], .blk b15 2 [.int .i64 a2]] rfl (by kernel_rfl) (by kernel_rfl) rfl rfl rfl rfl rfl (by kernel_rfl) hI (by decide) rfl rfl rfl (hI.grp 2 rfl) g16 (mks_cons (mk_flat (k := (tInt .i64)) a2 [.int .i64 a2] rfl) mks_nil) ?_
  clear hI
  intro A17 c18 _ hI
  replace hI := hI.pick (L' := [.row (tInt .i64) 2 A17 ((y11 ++ ([a2] : List Int)).length) c18 (y11 ++ ([a2] : List Int)), .blk b2 84 []]) [0, 1] (by decide) rfl
  refine o_batch 5 [] [.p] [(6, .slice A17 ((y11 ++ ([a2] : List Int)).length) c18)] [] trivial trivial (by kernel_rfl) (by kernel_rfl) (by kernel_rfl) ?_
  refine r_out (by kernel_rfl) ?_
  replace H := Option.some.inj H
  subst H
  exact go_return (.slice A17 ((y11 ++ ([a2] : List Int)).length) c18) Try.func94 (by kernel_rfl) ⟨A17, c18, rfl, hI.pick [0] (by decide) rfl⟩

/-! ### cmp.isNaN int64  -/
theorem enter108 (a : Array Value) : Sem.pureRun Try.prog (callFunc 108 a) = some (.enter 108 a) := by kernel_rfl
theorem cmp_isNaN_int64zcalls (a0 : Int) (M : Mem) (w : World) (hI : Inv M w []) (r : Bool) (H : cmp_isNaN_int64 a0 = some r) :
    Calls Try.prog 108 #[.int .i64 a0] w fun e w' => e = .returned (.bool r) ∧ Inv M w' [] := by
  refine calls_go (updL (fun _ => undef) [(0, .int .i64 a0)]) Try.func108 rfl (by kernel_rfl) ?_
  intro cs
  unfold cmp_isNaN_int64 at H
  refine go_seq ?_
  refine r_in ?_
  refine o_batch 0 [] [.p] [(2, .bool false)] [] trivial trivial (by kernel_rfl) (by kernel_rfl) (by kernel_rfl) ?_
  refine r_out (by kernel_rfl) ?_
  refine go_seq ?_
  refine r_in ?_
  refine o_batch 0 [] [.p, .p, .p, .p] [(3, .int .i64 a0), (4, .int .i64 a0), (5, .bool (a0 != a0)), (2, .bool (a0 != a0))] [] trivial trivial (by kernel_rfl) (by kernel_rfl) (by kernel_rfl) ?_
  refine r_out (by kernel_rfl) ?_
  replace H := Option.some.inj H
  subst H
  exact go_return (.bool (a0 != a0)) Try.func108 (by kernel_rfl) ⟨rfl, hI⟩

/-! ### cmp.Less int64  -/
theorem enter104 (a : Array Value) : Sem.pureRun Try.prog (callFunc 104 a) = some (.enter 104 a) := by kernel_rfl
theorem cmp_Less_int64zcalls (a0 : Int) (a1 : Int) (M : Mem) (w : World) (hI : Inv M w []) (r : Bool) (H : cmp_Less_int64 a0 a1 = some r) :
    Calls Try.prog 104 #[.int .i64 a0, .int .i64 a1] w fun e w' => e = .returned (.bool r) ∧ Inv M w' [] := by
  refine calls_go (updL (fun _ => undef) [(0, .int .i64 a0), (1, .int .i64 a1)]) Try.func104 rfl (by kernel_rfl) ?_
  intro cs
  unfold cmp_Less_int64 at H
  refine go_seq ?_
  refine r_in ?_
  refine o_batch 0 [] [.p] [(4, .bool false)] [] trivial trivial (by kernel_rfl) (by kernel_rfl) (by kernel_rfl) ?_
  refine r_out (by kernel_rfl) ?_
  refine go_seq ?_
  refine r_in ?_
  refine o_batch 0 [] [.p] [(5, .int .i64 a0)] [] trivial trivial (by kernel_rfl) (by kernel_rfl) (by kernel_rfl) ?_
  replace H := bind_some H
  obtain ⟨y7, hy8, H⟩ := H
  refine o_eff 1 _ rfl (by kernel_rfl) ?_
  refine e_callf _ _ _ 108 #[] #[] #[.int .i64 a0] #[.int .i64 a0] rfl (by kernel_rfl) (by kernel_rfl) (by kernel_rfl) (enter108 _) (cmp_isNaN_int64zcalls a0 (memOf _) _ (Inv.start _) _ hy8) ?_
  rintro _ _ ⟨rfl, hI'⟩
  replace hI := hI.call0 hI'
  clear hI'
  refine ⟨_, rfl, ?_⟩
  replace H := cond_some H
  rcases H with ⟨hc9, H⟩ | ⟨hc9, H⟩
  · refine o_batch 2 [] [.c true, .p] [(7, .bool true), (8, .int .i64 a1)] [((bif y7 == true then 0 else -1), 1)] trivial ⟨(bndEq hc9), trivial⟩ (by kernel_rfl) (by kernel_rfl) (by kernel_rfl) ?_
    replace H := bind_some H
    obtain ⟨y10, hy11, H⟩ := H
    refine o_eff 4 _ rfl (by kernel_rfl) ?_
    refine e_callf _ _ _ 108 #[] #[] #[.int .i64 a1] #[.int .i64 a1] rfl (by kernel_rfl) (by kernel_rfl) (by kernel_rfl) (enter108 _) (cmp_isNaN_int64zcalls a1 (memOf _) _ (Inv.start _) _ hy11) ?_
    rintro _ _ ⟨rfl, hI'⟩
    replace hI := hI.call0 hI'
    clear hI'
    refine ⟨_, rfl, ?_⟩
    replace H := cond_some H
    rcases H with ⟨hc12, H⟩ | ⟨hc12, H⟩
    · refine o_batch 5 [] [.p, .p, .c true, .p, .p, .p, .p, .p] [(10, .bool (!y10)), (11, .bool (!y10)), (12, .bool true), (13, undef), (14, undef), (15, undef), (16, .bool true), (4, .bool true)] [((bif (!y10) == true then 0 else -1), 1)] trivial ⟨(bndEq hc12), trivial⟩ (by kernel_rfl) (by kernel_rfl) (by kernel_rfl) ?_
      refine r_out (by kernel_rfl) ?_
      replace H := Option.some.inj H
      subst H
      exact go_return (.bool true) Try.func104 (by kernel_rfl) ⟨rfl, hI⟩
    · refine o_batch 5 [] [.p, .p, .c false, .p, .p, .p, .p, .p] [(10, .bool (!y10)), (11, .bool (!y10)), (12, .bool false), (13, .int .i64 a0), (14, .int .i64 a1), (15, .bool (decide (a0 < a1))), (16, .bool (decide (a0 < a1))), (4, .bool (decide (a0 < a1)))] [((bif (!y10) == false then 0 else -1), 1)] trivial ⟨(bndEq hc12), trivial⟩ (by kernel_rfl) (by kernel_rfl) (by kernel_rfl) ?_
      refine r_out (by kernel_rfl) ?_
      replace H := Option.some.inj H
      subst H
      exact go_return (.bool (decide (a0 < a1))) Try.func104 (by kernel_rfl) ⟨rfl, hI⟩
  · refine o_batch 2 [] [.c false, .p, .p, .p, .p, .p, .p, .p, .p, .p, .p] [(7, .bool false), (8, undef), (9, undef), (10, undef), (11, .bool false), (12, .bool false), (13, .int .i64 a0), (14, .int .i64 a1), (15, .bool (decide (a0 < a1))), (16, .bool (decide (a0 < a1))), (4, .bool (decide (a0 < a1)))] [((bif y7 == false then 0 else -1), 1)] trivial ⟨(bndEq hc9), trivial⟩ (by kernel_rfl) (by kernel_rfl) (by kernel_rfl) ?_
    refine r_out (by kernel_rfl) ?_
    replace H := Option.some.inj H
    subst H
    exact go_return (.bool (decide (a0 < a1))) Try.func104 (by kernel_rfl) ⟨rfl, hI⟩

/-! ### slices.isNaN int64  -/
theorem enter105 (a : Array Value) : Sem.pureRun Try.prog (callFunc 105 a) = some (.enter 105 a) := by kernel_rfl
theorem slices_isNaN_int64zcalls (a0 : Int) (M : Mem) (w : World) (hI : Inv M w []) (r : Bool) (H : slices_isNaN_int64 a0 = some r) :
    Calls Try.prog 105 #[.int .i64 a0] w fun e w' => e = .returned (.bool r) ∧ Inv M w' [] := by
  refine calls_go (updL (fun _ => undef) [(0, .int .i64 a0)]) Try.func105 rfl (by kernel_rfl) ?_
  intro cs
  unfold slices_isNaN_int64 at H
  refine go_seq ?_
  refine r_in ?_
  refine o_batch 0 [] [.p] [(2, .bool false)] [] trivial trivial (by kernel_rfl) (by kernel_rfl) (by kernel_rfl) ?_
  refine r_out (by kernel_rfl) ?_
  refine go_seq ?_
  refine r_in ?_
  refine o_batch 0 [] [.p, .p, .p, .p] [(3, .int .i64 a0), (4, .int .i64 a0), (5, .bool (a0 != a0)), (2, .bool (a0 != a0))] [] trivial trivial (by kernel_rfl) (by kernel_rfl) (by kernel_rfl) ?_
  refine r_out (by kernel_rfl) ?_
  replace H := Option.some.inj H
  subst H
  exact go_return (.bool (a0 != a0)) Try.func105 (by kernel_rfl) ⟨rfl, hI⟩

/-! ### slices.BinarySearch   int64 int64  -/
theorem enter101 (a : Array Value) : Sem.pureRun Try.prog (callFunc 101 a) = some (.enter 101 a) := by kernel_rfl
theorem slices_BinarySearch_int64zcalls (A0z : Option Addr) (c0z : Nat) (a0 : List Int) (a1 : Int) (M : Mem) (w : World) (hI : Inv M w []) (hr0z : rdS (tInt .i64) M.blk A0z a0) (hl0z : a0.length ≤ c0z) (r : Int × Bool) (H : slices_BinarySearch_int64 a0 a1 = some r) :
    Calls Try.prog 101 #[.slice A0z a0.length c0z, .int .i64 a1] w fun e w' => e = .returned (.tuple #[.int .i64 r.1, .bool r.2]) ∧ Inv M w' [] := by
  refine calls_go (updL (fun _ => undef) [(0, .slice A0z a0.length c0z), (1, .int .i64 a1)]) Try.func101 rfl (by kernel_rfl) ?_
  intro cs
  unfold slices_BinarySearch_int64 at H
  refine go_seq ?_
  refine r_in ?_
  refine o_batch 0 [] [.p, .p] [(4, .int .i64 0), (5, .bool false)] [] trivial trivial (by kernel_rfl) (by kernel_rfl) (by kernel_rfl) ?_
  refine r_out (by kernel_rfl) ?_
  refine go_seq ?_
  refine r_in ?_
  refine o_batch 0 [] [.p, .p, .p] [(10, .slice A0z a0.length c0z), (11, .int .i64 (a0.length : Int)), (6, .int .i64 (a0.length : Int))] [] trivial trivial (by kernel_rfl) (by kernel_rfl) (by kernel_rfl) ?_
  refine r_out (by kernel_rfl) ?_
  refine go_seq ?_
  refine r_in ?_
  refine o_batch 0 [] [.p, .p, .p] [(12, .int .i64 (a0.length : Int)), (7, .int .i64 0), (8, .int .i64 (a0.length : Int))] [] trivial trivial (by kernel_rfl) (by kernel_rfl) (by kernel_rfl) ?_
  refine r_out (by kernel_rfl) ?_
  refine go_seq ?_
  refine go_block ?_
  refine go_iter (slices_BinarySearch_int64.s1 a0 a1) (fun (x115, x116) f w => ∃ (j : Nat → Value), f = updL j [(0, .slice A0z a0.length c0z), (1, .int .i64 a1), (6, .int .i64 (a0.length : Int)), (7, .int .i64 x115), (8, .int .i64 x116)] ∧ Inv M w []) H ⟨_, at_slots _ (by kernel_rfl), hI⟩ ?_
  clear H hI
  rintro ⟨x115, x116⟩ _ _ o1 H ⟨_, rfl, hI⟩ hin1 hout1
  refine go_seq ?_
  refine go_seq ?_
  refine r_in ?_
  refine o_batch 0 [] [.p, .p, .p] [(13, .int .i64 x115), (14, .int .i64 x116), (15, .bool (decide (x115 < x116)))] [] trivial trivial (by kernel_rfl) (by kernel_rfl) (by kernel_rfl) ?_
  refine r_out (by kernel_rfl) ?_
  replace H := cond_some H
  rcases H with ⟨hc118, H⟩ | ⟨hc118, H⟩
  · refine go_then' (t := decide (x115 < x116)) (by kernel_rfl) hc118 ?_
    refine go_skip ?_
    refine go_block_join (o := o1) (fun (x126, x127) f w => ∃ (j : Nat → Value), f = updL j [(0, .slice A0z a0.length c0z), (1, .int .i64 a1), (6, .int .i64 (a0.length : Int)), (7, .int .i64 x126), (8, .int .i64 x127)] ∧ Inv M w []) (fun (x126, x127) => slices_BinarySearch_int64.j2 x126 x127) ?_ (fun hJ128 => ?_)
    · clear H hI
      rintro ⟨x126, x127⟩ _ _ ⟨_, rfl, hI⟩ H
      exact hin1 _ (Option.some.inj H).symm _ _ ⟨_, at_slots _ (by kernel_rfl), hI⟩
    · refine go_seq ?_
      refine r_in ?_
      replace H := must_some H
      obtain ⟨g130, H⟩ := H
      refine o_batch 0 [] [.p, .p, .p, .p, .x, .p, .p] [(16, .int .i64 x115), (17, .int .i64 x116), (18, .int .i64 (w64 (x115 + x116))), (19, .int .u64 (IntKind.wrap .u64 (w64 (x115 + x116)))), (20, .int .u64 (sShr .u64 (IntKind.wrap .u64 (w64 (x115 + x116))) (1 : Int))), (21, .int .i64 (w64 (sShr .u64 (IntKind.wrap .u64 (w64 (x115 + x116))) (1 : Int)))), (9, .int .i64 (w64 (sShr .u64 (IntKind.wrap .u64 (w64 (x115 + x116))) (1 : Int))))] [(1, far)] trivial ⟨g130, trivial⟩ (by kernel_rfl) (by kernel_rfl) (by kernel_rfl) ?_
      refine r_out (by kernel_rfl) ?_
      refine go_seq ?_
      refine r_in ?_
      replace H := must_some H
      obtain ⟨g136, H⟩ := H
      obtain ⟨b137, q138, rfl, _⟩ := rdS.fopen hr0z rfl g136
      refine o_batch 0 [(b137, q138 + (w64 (sShr .u64 (IntKind.wrap .u64 (w64 (x115 + x116))) (1 : Int))).toNat * 1, [.int .i64 (idx a0 (w64 (sShr .u64 (IntKind.wrap .u64 (w64 (x115 + x116))) (1 : Int))))])] [.p, .p, .x, .l 0 0, .p] [(22, .slice (some ⟨b137, q138, none⟩) a0.length c0z), (23, .int .i64 (w64 (sShr .u64 (IntKind.wrap .u64 (w64 (x115 + x116))) (1 : Int)))), (24, .pointer (some ⟨b137, q138 + (w64 (sShr .u64 (IntKind.wrap .u64 (w64 (x115 + x116))) (1 : Int))).toNat * 1, none⟩)), (25, .int .i64 (idx a0 (w64 (sShr .u64 (IntKind.wrap .u64 (w64 (x115 + x116))) (1 : Int))))), (26, .int .i64 a1)] [(w64 (sShr .u64 (IntKind.wrap .u64 (w64 (x115 + x116))) (1 : Int)), a0.length)] ⟨(hI.lies (rdS.flook hr0z rfl g136)), trivial⟩ ⟨g136, trivial⟩ (by kernel_rfl) (by kernel_rfl) (by kernel_rfl) ?_
      replace H := bind_some H
      obtain ⟨y139, hy140, H⟩ := H
      refine o_eff 5 _ rfl (by kernel_rfl) ?_
      refine e_callf _ _ _ 104 #[] #[] #[.int .i64 (idx a0 (w64 (sShr .u64 (IntKind.wrap .u64 (w64 (x115 + x116))) (1 : Int)))), .int .i64 a1] #[.int .i64 (idx a0 (w64 (sShr .u64 (IntKind.wrap .u64 (w64 (x115 + x116))) (1 : Int)))), .int .i64 a1] rfl (by kernel_rfl) (by kernel_rfl) (by kernel_rfl) (enter104 _) (cmp_Less_int64zcalls (idx a0 (w64 (sShr .u64 (IntKind.wrap .u64 (w64 (x115 + x116))) (1 : Int)))) a1 (memOf _) _ (Inv.start _) _ hy140) ?_
      rintro _ _ ⟨rfl, hI'⟩
      replace hI := hI.call0 hI'
      clear hI'
      refine ⟨_, rfl, ?_⟩
      refine r_out (by kernel_rfl) ?_
      replace H := cond_some H
      rcases H with ⟨hc141, H⟩ | ⟨hc141, H⟩
      · refine go_then' (t := y139) (by kernel_rfl) hc141 ?_
        refine r_in ?_
        refine o_batch 0 [] [.p, .p, .p] [(28, .int .i64 (w64 (sShr .u64 (IntKind.wrap .u64 (w64 (x115 + x116))) (1 : Int)))), (29, .int .i64 (w64 ((w64 (sShr .u64 (IntKind.wrap .u64 (w64 (x115 + x116))) (1 : Int))) + 1))), (7, .int .i64 (w64 ((w64 (sShr .u64 (IntKind.wrap .u64 (w64 (x115 + x116))) (1 : Int))) + 1)))] [] trivial trivial (by kernel_rfl) (by kernel_rfl) (by kernel_rfl) ?_
        refine r_out (by kernel_rfl) ?_
        refine go_inBlock ?_
        exact hJ128 (w64 ((w64 (sShr .u64 (IntKind.wrap .u64 (w64 (x115 + x116))) (1 : Int))) + 1), x116) _ _ ⟨_, at_slots _ (by kernel_rfl), hI⟩ H
      · refine go_else' (t := y139) (by kernel_rfl) hc141 ?_
        refine r_in ?_
        refine o_batch 0 [] [.p, .p] [(30, .int .i64 (w64 (sShr .u64 (IntKind.wrap .u64 (w64 (x115 + x116))) (1 : Int)))), (8, .int .i64 (w64 (sShr .u64 (IntKind.wrap .u64 (w64 (x115 + x116))) (1 : Int))))] [] trivial trivial (by kernel_rfl) (by kernel_rfl) (by kernel_rfl) ?_
        refine r_out (by kernel_rfl) ?_
        refine go_inBlock ?_
        exact hJ128 (x115, w64 (sShr .u64 (IntKind.wrap .u64 (w64 (x115 + x116))) (1 : Int))) _ _ ⟨_, at_slots _ (by kernel_rfl), hI⟩ H
  · refine go_else' (t := decide (x115 < x116)) (by kernel_rfl) hc118 ?_
    refine go_exit rfl ?_
    refine go_seq ?_
    refine r_in ?_
    replace H := cond_some H
    rcases H with ⟨hc152, H⟩ | ⟨hc152, H⟩
    · replace H := must_some H
      obtain ⟨g153, H⟩ := H
      obtain ⟨b154, q155, rfl, _⟩ := rdS.fopen hr0z rfl g153
      replace H := cond_some H
      rcases H with ⟨hc156, H⟩ | ⟨hc156, H⟩
      · refine o_batch 0 [(b154, q155 + x115.toNat * 1, [.int .i64 (idx a0 x115)])] [.p, .p, .p, .p, .c true, .p, .p, .x, .l 0 0, .p, .p, .c true, .p, .p, .p, .p, .p, .p, .p, .p, .p, .p, .p, .p, .p] [(31, .int .i64 x115), (32, .int .i64 x115), (33, .int .i64 (a0.length : Int)), (34, .bool (decide (x115 < (a0.length : Int)))), (35, .bool true), (36, .slice (some ⟨b154, q155, none⟩) a0.length c0z), (37, .int .i64 x115), (38, .pointer (some ⟨b154, q155 + x115.toNat * 1, none⟩)), (39, .int .i64 (idx a0 x115)), (40, .int .i64 a1), (41, .bool (idx a0 x115 == a1)), (42, .bool true), (43, undef), (44, undef), (45, undef), (46, undef), (47, undef), (48, undef), (49, undef), (50, undef), (51, undef), (52, .bool true), (53, .bool true), (4, .int .i64 x115), (5, .bool true)] [((bif (decide (x115 < (a0.length : Int))) == true then 0 else -1), 1), (x115, a0.length), ((bif (idx a0 x115 == a1) == true then 0 else -1), 1)] ⟨(hI.lies (rdS.flook hr0z rfl g153)), trivial⟩ ⟨(bndEq hc152), g153, (bndEq hc156), trivial⟩ (by kernel_rfl) (by kernel_rfl) (by kernel_rfl) ?_
        refine r_out (by kernel_rfl) ?_
        replace H := out_some H
        obtain ⟨_, H, he1⟩ := H
        have he := (hout1 _ he1).symm
        subst he
        replace H := Option.some.inj H
        subst H
        exact go_return (.tuple #[.int .i64 x115, .bool true]) Try.func101 (by kernel_rfl) ⟨rfl, hI⟩
      · refine o_batch 0 [(b154, q155 + x115.toNat * 1, [.int .i64 (idx a0 x115)])] [.p, .p, .p, .p, .c true, .p, .p, .x, .l 0 0, .p, .p, .c false, .p, .p, .x, .l 0 0] [(31, .int .i64 x115), (32, .int .i64 x115), (33, .int .i64 (a0.length : Int)), (34, .bool (decide (x115 < (a0.length : Int)))), (35, .bool true), (36, .slice (some ⟨b154, q155, none⟩) a0.length c0z), (37, .int .i64 x115), (38, .pointer (some ⟨b154, q155 + x115.toNat * 1, none⟩)), (39, .int .i64 (idx a0 x115)), (40, .int .i64 a1), (41, .bool (idx a0 x115 == a1)), (42, .bool false), (43, .slice (some ⟨b154, q155, none⟩) a0.length c0z), (44, .int .i64 x115), (45, .pointer (some ⟨b154, q155 + x115.toNat * 1, none⟩)), (46, .int .i64 (idx a0 x115))] [((bif (decide (x115 < (a0.length : Int))) == true then 0 else -1), 1), (x115, a0.length), ((bif (idx a0 x115 == a1) == false then 0 else -1), 1), (x115, a0.length)] ⟨(hI.lies (rdS.flook hr0z rfl g153)), trivial⟩ ⟨(bndEq hc152), g153, (bndEq hc156), g153, trivial⟩ (by kernel_rfl) (by kernel_rfl) (by kernel_rfl) ?_
        replace H := bind_some H
        obtain ⟨y157, hy158, H⟩ := H
        refine o_eff 16 _ rfl (by kernel_rfl) ?_
        refine e_callf _ _ _ 105 #[] #[] #[.int .i64 (idx a0 x115)] #[.int .i64 (idx a0 x115)] rfl (by kernel_rfl) (by kernel_rfl) (by kernel_rfl) (enter105 _) (slices_isNaN_int64zcalls (idx a0 x115) (memOf _) _ (Inv.start _) _ hy158) ?_
        rintro _ _ ⟨rfl, hI'⟩
        replace hI := hI.call0 hI'
        clear hI'
        refine ⟨_, rfl, ?_⟩
        replace H := cond_some H
        rcases H with ⟨hc159, H⟩ | ⟨hc159, H⟩
        · refine o_batch 17 [] [.c true, .p] [(48, .bool true), (49, .int .i64 a1)] [((bif y157 == true then 0 else -1), 1)] trivial ⟨(bndEq hc159), trivial⟩ (by kernel_rfl) (by kernel_rfl) (by kernel_rfl) ?_
          replace H := bind_some H
          obtain ⟨y160, hy161, H⟩ := H
          refine o_eff 19 _ rfl (by kernel_rfl) ?_
          refine e_callf _ _ _ 105 #[] #[] #[.int .i64 a1] #[.int .i64 a1] rfl (by kernel_rfl) (by kernel_rfl) (by kernel_rfl) (enter105 _) (slices_isNaN_int64zcalls a1 (memOf _) _ (Inv.start _) _ hy161) ?_
          rintro _ _ ⟨rfl, hI'⟩
          replace hI := hI.call0 hI'
          clear hI'
          refine ⟨_, rfl, ?_⟩
          refine o_batch 20 [] [.p, .p, .p, .p, .p] [(51, .bool y160), (52, .bool y160), (53, .bool y160), (4, .int .i64 x115), (5, .bool y160)] [] trivial trivial (by kernel_rfl) (by kernel_rfl) (by kernel_rfl) ?_
          refine r_out (by kernel_rfl) ?_
          replace H := out_some H
          obtain ⟨_, H, he1⟩ := H
          have he := (hout1 _ he1).symm
          subst he
          replace H := Option.some.inj H
          subst H
          exact go_return (.tuple #[.int .i64 x115, .bool y160]) Try.func101 (by kernel_rfl) ⟨rfl, hI⟩
        · refine o_batch 17 [] [.c false, .p, .p, .p, .p, .p, .p, .p] [(48, .bool false), (49, undef), (50, undef), (51, .bool false), (52, .bool false), (53, .bool false), (4, .int .i64 x115), (5, .bool false)] [((bif y157 == false then 0 else -1), 1)] trivial ⟨(bndEq hc159), trivial⟩ (by kernel_rfl) (by kernel_rfl) (by kernel_rfl) ?_
          refine r_out (by kernel_rfl) ?_
          replace H := out_some H
          obtain ⟨_, H, he1⟩ := H
          have he := (hout1 _ he1).symm
          subst he
          replace H := Option.some.inj H
          subst H
          exact go_return (.tuple #[.int .i64 x115, .bool false]) Try.func101 (by kernel_rfl) ⟨rfl, hI⟩
    · refine o_batch 0 [] [.p, .p, .p, .p, .c false, .p, .p, .p, .p, .p, .p, .p, .p, .p, .p, .p, .p, .p, .p, .p, .p, .p, .p, .p, .p] [(31, .int .i64 x115), (32, .int .i64 x115), (33, .int .i64 (a0.length : Int)), (34, .bool (decide (x115 < (a0.length : Int)))), (35, .bool false), (36, undef), (37, undef), (38, undef), (39, undef), (40, undef), (41, undef), (42, undef), (43, undef), (44, undef), (45, undef), (46, undef), (47, undef), (48, undef), (49, undef), (50, undef), (51, undef), (52, undef), (53, .bool false), (4, .int .i64 x115), (5, .bool false)] [((bif (decide (x115 < (a0.length : Int))) == false then 0 else -1), 1)] trivial ⟨(bndEq hc152), trivial⟩ (by kernel_rfl) (by kernel_rfl) (by kernel_rfl) ?_
      refine r_out (by kernel_rfl) ?_
      replace H := out_some H
      obtain ⟨_, H, he1⟩ := H
      have he := (hout1 _ he1).symm
      subst he
      replace H := Option.some.inj H
      subst H
      exact go_return (.tuple #[.int .i64 x115, .bool false]) Try.func101 (by kernel_rfl) ⟨rfl, hI⟩

/-! ### slices.Insert   int64 int64  -/
theorem enter102 (a : Array Value) : Sem.pureRun Try.prog (callFunc 102 a) = some (.enter 102 a) := by kernel_rfl
theorem slices_Insert_int64zcalls (A0z : Option Addr) (c0z : Nat) (a0 : List Int) (a1 : Int) (A2z : Option Addr) (c2z : Nat) (a2 : List Int) (M : Mem) (w : World) (hI : Inv M w [.row (tInt .i64) 2 A0z a0.length c0z a0, .row (tInt .i64) 2 A2z a2.length c2z a2]) (r : List Int) (H : slices_Insert_int64 a0 a1 a2 = some r) :
    Calls Try.prog 102 #[.slice A0z a0.length c0z, .int .i64 a1, .slice A2z a2.length c2z] w fun e w' => ∃ (A : Option Addr) (c : Nat), e = .returned (.slice A r.length c) ∧ Inv M w' [.row (tInt .i64) 2 A r.length c r] := by
  refine calls_go (updL (fun _ => undef) [(0, .slice A0z a0.length c0z), (1, .int .i64 a1), (2, .slice A2z a2.length c2z)]) Try.func102 rfl (by kernel_rfl) ?_
  intro cs
  unfold slices_Insert_int64 at H
  replace H := must_some H
  obtain ⟨⟨g0, g1, g2, g3⟩, H⟩ := H
  replace H := Option.some.inj H
  subst H
  have hle := hI.rowle 0 rfl
  have hll : (a0.length : Int).toNat = a0.length := Int.toNat_natCast _
  have hen : ∀ x : Int, ((fun x : Int => ([.int .i64 x] : List Value)) x).length = 1 := fun _ => rfl
  have hc9 : c0z ≤ maxLen := hI.rowcap 0 rfl
  have hmx : maxLen = 9223372036854775807 := rfl
  refine go_seq ?_
  refine r_in ?_
  refine o_batch 0 [] [.p] [(6, .slice none 0 0)] [] trivial trivial (by kernel_rfl) (by kernel_rfl) (by kernel_rfl) ?_
  refine r_out (by kernel_rfl) ?_
  repeat refine go_seq ?_
  refine r_in ?_
  refine o_batch 0 [] [.p, .p, .x] [(10, .slice A0z a0.length c0z), (11, .int .i64 a1), (12, sliced A0z a1.toNat (a0.length : Int).toNat c0z 1)] [(a1, (a0.length : Int).toNat + 1), ((a0.length : Int), c0z + 1)] trivial ⟨⟨g0, by omega⟩, ⟨by omega, by omega⟩, trivial⟩ (by kernel_rfl) (by kernel_rfl) (by kernel_rfl) ?_
  refine r_out (by kernel_rfl) ?_
  repeat refine go_seq ?_
  refine r_in ?_
  refine o_batch 0 [] [.p, .p, .p] [(13, .slice A2z a2.length c2z), (14, .int .i64 (a2.length : Int)), (7, .int .i64 (a2.length : Int))] [] trivial trivial (by kernel_rfl) (by kernel_rfl) (by kernel_rfl) ?_
  refine r_out (by kernel_rfl) ?_
  repeat refine go_seq ?_
  refine r_in ?_
  refine o_batch 0 [] [.p, .p] [(15, .int .i64 (a2.length : Int)), (16, .bool ((a2.length : Int) == 0))] [] trivial trivial (by kernel_rfl) (by kernel_rfl) (by kernel_rfl) ?_
  refine r_out (by kernel_rfl) ?_
  have hm0 : ((a2.length : Int) == 0) = false := by rw [beq_eq_false_iff_ne]; omega
  refine go_else' (t := ((a2.length : Int) == 0)) (by kernel_rfl) hm0 ?_
  refine go_skip ?_
  repeat refine go_seq ?_
  refine r_in ?_
  refine o_batch 0 [] [.p, .p, .p] [(18, .slice A0z a0.length c0z), (19, .int .i64 (a0.length : Int)), (8, .int .i64 (a0.length : Int))] [] trivial trivial (by kernel_rfl) (by kernel_rfl) (by kernel_rfl) ?_
  refine r_out (by kernel_rfl) ?_
  repeat refine go_seq ?_
  refine r_in ?_
  refine o_batch 0 [] [.p, .p, .p] [(20, .int .i64 a1), (21, .int .i64 (a0.length : Int)), (22, .bool (a1 == (a0.length : Int)))] [] trivial trivial (by kernel_rfl) (by kernel_rfl) (by kernel_rfl) ?_
  refine r_out (by kernel_rfl) ?_
  rcases Bool.eq_false_or_eq_true (a1 == (a0.length : Int)) with hc | hc
  · refine go_then' (t := (a1 == (a0.length : Int))) (by kernel_rfl) hc ?_
    have hc' : a1 = (a0.length : Int) := eq_of_beq hc
    repeat refine go_seq ?_
    refine r_in ?_
    refine o_batch 0 [] [.p, .p] [(23, .slice A0z a0.length c0z), (24, .slice A2z a2.length c2z)] [] trivial trivial (by kernel_rfl) (by kernel_rfl) (by kernel_rfl) ?_
    refine o_eff 2 _ rfl (by kernel_rfl) ?_
    refine e_append_rd (kt := (tInt .i64)) 22 0 2 _ _ _ _ A0z A2z a0.length c0z a0 a2 c2z 0 [] [] rfl (by kernel_rfl) (by kernel_rfl) rfl rfl rfl rfl rfl (by kernel_rfl) hI (by decide) rfl (hI.row 1 rfl) ⟨g3, by omega⟩ ?_
    clear hI
    intro A c _ hI
    refine o_batch 3 [] [.p] [(6, .slice A (a0 ++ a2).length c)] [] trivial trivial (by kernel_rfl) (by kernel_rfl) (by kernel_rfl) ?_
    refine r_out (by kernel_rfl) ?_
    have he : a0.take a1.toNat ++ a2 ++ a0.drop a1.toNat = a0 ++ a2 := by rw [hc', Int.toNat_natCast, List.take_length, List.drop_length, List.append_nil]
    rw [he]
    exact go_return (.slice A (a0 ++ a2).length c) Try.func102 (by kernel_rfl) ⟨A, c, rfl, hI⟩
  · refine go_else' (t := (a1 == (a0.length : Int))) (by kernel_rfl) hc ?_
    have hc' : a1 ≠ (a0.length : Int) := by intro e; rw [beq_eq_false_iff_ne] at hc; exact hc e
    refine go_skip ?_
    repeat refine go_seq ?_
    refine r_in ?_
    obtain ⟨b, rfl⟩ := hI.rowAt 0 rfl (j := a1) ⟨g0, by omega⟩
    obtain ⟨b2, rfl⟩ := hI.rowAt 1 rfl (j := 0) ⟨by omega, by omega⟩
    have hs1 : w64 ((a0.length : Int) + (a2.length : Int)) = (a0.length : Int) + (a2.length : Int) := w64zid (by omega) (by omega)
    have hs2 : w64 (a1 + (a2.length : Int)) = a1 + (a2.length : Int) := w64zid (by omega) (by omega)
    refine o_batch 0 [] [.p, .p, .p, .p, .p, .p] [(26, .int .i64 (a0.length : Int)), (27, .int .i64 (a2.length : Int)), (28, .int .i64 (w64 ((a0.length : Int) + (a2.length : Int)))), (29, .slice (some ⟨b, 0, none⟩) a0.length c0z), (30, .int .i64 (c0z : Int)), (31, .bool (decide (w64 ((a0.length : Int) + (a2.length : Int)) > (c0z : Int))))] [] trivial trivial (by kernel_rfl) (by kernel_rfl) (by kernel_rfl) ?_
    refine r_out (by kernel_rfl) ?_
    obtain ⟨bs, hI, hbl, hbt, _, hlc, hcm⟩ := hI.openrow 0 rfl
    obtain ⟨bs2, hI, hbl2, hbt2, _, hlc2, hcm2⟩ := hI.openrow 1 rfl
    have hsz : (tInt .i64).sz = 1 := rfl
    rw [hsz] at hbl hbt hbl2 hbt2
    have hne := hI.apart2
    have hbi : bs.take (a1.toNat * 1) = (a0.take a1.toNat).flatMap (fun x : Int => ([.int .i64 x] : List Value)) := by rw [flatMap_take hen, ← hbt, List.take_take, Nat.min_eq_left (by omega)]
    have hpc := part_cells (j := a1.toNat) hen rfl hbt
    have hw2 : (a1 + (a2.length : Int)).toNat = a1.toNat + a2.length := by omega
    have hrl : (a0.take a1.toNat ++ a2 ++ a0.drop a1.toNat).length = a0.length + a2.length := by simp; omega
    rcases Bool.eq_false_or_eq_true (decide (w64 ((a0.length : Int) + (a2.length : Int)) > (c0z : Int))) with hd | hd
    · refine go_then' (t := decide (w64 ((a0.length : Int) + (a2.length : Int)) > (c0z : Int))) (by kernel_rfl) hd ?_
      have hd' := of_decide_eq_true hd
      rw [hs1] at hd'
      have hs3 : w64 (w64 ((a0.length : Int) + (a2.length : Int)) - a1) = ((a0.length + a2.length - a1.toNat : Nat) : Int) := by rw [hs1, w64zid (by omega) (by omega)]; omega
      repeat refine go_seq ?_
      refine r_in ?_
      refine o_batch 0 [] [.p, .p, .x, .p, .p, .p, .p, .p] [(32, .slice (some ⟨b, 0, none⟩) a0.length c0z), (33, .int .i64 a1), (34, .slice (some ⟨b, 0, none⟩) a1.toNat c0z), (35, .int .i64 (a0.length : Int)), (36, .int .i64 (a2.length : Int)), (37, .int .i64 (w64 ((a0.length : Int) + (a2.length : Int)))), (38, .int .i64 a1), (39, .int .i64 (w64 (w64 ((a0.length : Int) + (a2.length : Int)) - a1)))] [(a1, c0z + 1)] trivial ⟨⟨g0, by omega⟩, trivial⟩ (by kernel_rfl) (by kernel_rfl) (by kernel_rfl) ?_
      have hsf := Src.front (sz := 1) (n := a1.toNat) (c := c0z) hI 0 rfl (by omega)
      rw [hbi] at hsf
      refine o_is 39 _ _ rfl (congrArg (Value.int .i64) hs3) ?_
      refine o_eff 8 _ rfl (by kernel_rfl) ?_
      refine e_append_zeros _ _ 22 3 2 _ 1 _ (.slice (some ⟨b, 0, none⟩) a1.toNat c0z) a1.toNat c0z (a0.length + a2.length - a1.toNat) .i64 .i64 _ _ rfl (by kernel_rfl) (by kernel_rfl) rfl rfl rfl rfl rfl rfl hsf hI (by omega) (by omega) (by omega) (by omega) ?_ ?_
      · rw [show a1.toNat + (a0.length + a2.length - a1.toNat) = a0.length + a2.length by omega]; exact g3
      clear hI
      intro b3 c3 bs3 _ hbl3 hbt3 hge3 hcm3 hI
      rw [show a1.toNat + (a0.length + a2.length - a1.toNat) = a0.length + a2.length by omega] at hge3 ⊢
      refine o_batch 9 [] [.p] [(9, .slice (some ⟨b3, 0, none⟩) (a0.length + a2.length) c3)] [] trivial trivial (by kernel_rfl) (by kernel_rfl) (by kernel_rfl) ?_
      refine r_out (by kernel_rfl) ?_
      repeat refine go_seq ?_
      refine r_in ?_
      refine o_batch 0 [] [.p, .p, .x, .p] [(41, .slice (some ⟨b3, 0, none⟩) (a0.length + a2.length) c3), (42, .int .i64 a1), (43, sliced (some ⟨b3, 0, none⟩) a1.toNat ((a0.length + a2.length : Nat) : Int).toNat c3 1), (44, .slice (some ⟨b2, 0, none⟩) a2.length c2z)] [(a1, ((a0.length + a2.length : Nat) : Int).toNat + 1), (((a0.length + a2.length : Nat) : Int), c3 + 1)] trivial ⟨⟨g0, by omega⟩, ⟨by omega, by omega⟩, trivial⟩ (by kernel_rfl) (by kernel_rfl) (by kernel_rfl) ?_
      have hsv := Src.front (sz := 1) (n := a2.length) (c := c2z) hI 1 rfl (by omega)
      rw [hbt2] at hsv
      refine o_eff 4 _ rfl (by kernel_rfl) ?_
      refine e_copy _ _ 22 22 2 _ 1 2 b3 a1.toNat ((a0.length + a2.length : Nat) : Int).toNat c3 a2.length _ bs3 _ rfl (by kernel_rfl) (by kernel_rfl) rfl rfl rfl hI rfl hsv (by omega) (by omega) (by omega) (fun v hv => flats_one (tInt .i64) _ v (List.mem_of_mem_take hv)) ?_
      clear hI
      have hk1 : Nat.min a2.length (((a0.length + a2.length : Nat) : Int).toNat - a1.toNat) = a2.length := Nat.min_eq_left (by omega)
      have hvl : (a2.flatMap (fun x : Int => ([.int .i64 x] : List Value))).length = a2.length * 1 := flatMap_len hen a2
      rw [hk1, List.take_of_length_le (by omega)]
      intro _ hI
      refine r_out (by kernel_rfl) ?_
      repeat refine go_seq ?_
      have hd3 : c3 = c3 := rfl
      refine d_tail' 8 _ [] [.p, .p, .p, .p, .x, .p, .p, .x] [(46, .slice (some ⟨b3, 0, none⟩) (a0.length + a2.length) c3), (47, .int .i64 a1), (48, .int .i64 (a2.length : Int)), (49, .int .i64 (w64 (a1 + (a2.length : Int)))), (50, sliced (some ⟨b3, 0, none⟩) (w64 (a1 + (a2.length : Int))).toNat ((a0.length + a2.length : Nat) : Int).toNat c3 1), (51, .slice (some ⟨b, 0, none⟩) a0.length c0z), (52, .int .i64 a1), (53, sliced (some ⟨b, 0, none⟩) a1.toNat (a0.length : Int).toNat c0z 1)]
        [(w64 (a1 + (a2.length : Int)), ((a0.length + a2.length : Nat) : Int).toNat + 1), (((a0.length + a2.length : Nat) : Int), c3 + 1), (a1, (a0.length : Int).toNat + 1), ((a0.length : Int), c0z + 1)] (by kernel_rfl) (by kernel_rfl) rfl rfl trivial ⟨⟨by omega, by omega⟩, ⟨by omega, by omega⟩, ⟨g0, by omega⟩, ⟨by omega, by omega⟩, trivial⟩ (by kernel_rfl) (by kernel_rfl) (by kernel_rfl) (by kernel_rfl) hI ?_
      clear hI
      intro _ hI _
      have hss := Src.of_blk (sz := 1) (l := a1.toNat) (h := (a0.length : Int).toNat) (m := c0z) hI 0 rfl (by omega) (by omega) (by omega)
      rw [hll, hpc] at hss
      have hk2 : Nat.min (a0.length - a1.toNat) (((a0.length + a2.length : Nat) : Int).toNat - (w64 (a1 + (a2.length : Int))).toNat) = a0.length - a1.toNat := Nat.min_eq_left (by rw [hs2]; omega)
      have hdl : ((a0.drop a1.toNat).flatMap (fun x : Int => ([.int .i64 x] : List Value))).length = (a0.length - a1.toNat) * 1 := by rw [flatMap_len hen, List.length_drop]
      have hsp : (splice bs3 (a1.toNat * 1) (a2.flatMap (fun x : Int => ([.int .i64 x] : List Value)))).length = bs3.length := splice_len (by omega)
      refine e_copy _ _ 22 22 2 _ 1 2 b3 (w64 (a1 + (a2.length : Int))).toNat ((a0.length + a2.length : Nat) : Int).toNat c3 (a0.length - a1.toNat) _ _ _ rfl (by kernel_rfl) (by kernel_rfl) rfl rfl rfl hI rfl hss (by omega) (by omega) (by rw [hsp]; omega) (fun v hv => flats_one (tInt .i64) _ v (List.mem_of_mem_take hv)) ?_
      clear hI
      rw [hk2, List.take_of_length_le (by omega), hs2, hw2]
      intro _ hI
      repeat refine go_seq ?_
      refine r_in ?_
      refine o_batch 0 [] [.p, .p] [(55, .slice (some ⟨b3, 0, none⟩) (a0.length + a2.length) c3), (6, .slice (some ⟨b3, 0, none⟩) (a0.length + a2.length) c3)] [] trivial trivial (by kernel_rfl) (by kernel_rfl) (by kernel_rfl) ?_
      refine r_out (by kernel_rfl) ?_
      refine go_return (.slice (some ⟨b3, 0, none⟩) (a0.length + a2.length) c3) Try.func102 (by kernel_rfl) ⟨some ⟨b3, 0, none⟩, c3, by rw [hrl], ?_⟩
      refine Inv.pick (hI.closerow (kt := (tInt .i64)) 2 (a0.take a1.toNat ++ a2 ++ a0.drop a1.toNat) rfl ?_ ?_ (by omega) hcm3) [2] (by decide) rfl
      · rw [splice_len (by omega), hsp, hsz, hbl3]
      · rw [hrl, hsz]
        exact ins_cells1 hen hbt3 (by omega) (by omega)
    · refine go_else' (t := decide (w64 ((a0.length : Int) + (a2.length : Int)) > (c0z : Int))) (by kernel_rfl) hd ?_
      have hd' := of_decide_eq_false hd
      rw [hs1] at hd'
      refine go_skip ?_
      repeat refine go_seq ?_
      refine r_in ?_
      refine o_batch 0 [] [.p, .p, .p, .p, .x, .p] [(56, .slice (some ⟨b, 0, none⟩) a0.length c0z), (57, .int .i64 (a0.length : Int)), (58, .int .i64 (a2.length : Int)), (59, .int .i64 (w64 ((a0.length : Int) + (a2.length : Int)))), (60, .slice (some ⟨b, 0, none⟩) (w64 ((a0.length : Int) + (a2.length : Int))).toNat c0z), (0, .slice (some ⟨b, 0, none⟩) (w64 ((a0.length : Int) + (a2.length : Int))).toNat c0z)] [((w64 ((a0.length : Int) + (a2.length : Int))), c0z + 1)] trivial ⟨⟨by omega, by omega⟩, trivial⟩ (by kernel_rfl) (by kernel_rfl) (by kernel_rfl) ?_
      refine r_out (by kernel_rfl) ?_
      repeat refine go_seq ?_
      refine r_in ?_
      refine o_batch 0 [] [.p, .p, .p, .p, .p, .x] [(61, .slice (some ⟨b2, 0, none⟩) a2.length c2z), (62, .slice (some ⟨b, 0, none⟩) (w64 ((a0.length : Int) + (a2.length : Int))).toNat c0z), (63, .int .i64 a1), (64, .int .i64 (a2.length : Int)), (65, .int .i64 (w64 (a1 + (a2.length : Int)))), (66, sliced (some ⟨b, 0, none⟩) (w64 (a1 + (a2.length : Int))).toNat ((w64 ((a0.length : Int) + (a2.length : Int))).toNat : Int).toNat c0z 1)] [((w64 (a1 + (a2.length : Int))), ((w64 ((a0.length : Int) + (a2.length : Int))).toNat : Int).toNat + 1), (((w64 ((a0.length : Int) + (a2.length : Int))).toNat : Int), c0z + 1)] trivial ⟨⟨by omega, by omega⟩, ⟨by omega, by omega⟩, trivial⟩ (by kernel_rfl) (by kernel_rfl) (by kernel_rfl) ?_
      refine o_eff 6 _ rfl (by kernel_rfl) ?_
      refine e_overlaps _ _ _ 106 22 4 2 _ ⟨b2, 0, none⟩ ⟨b, _, none⟩ a2.length c2z _ _ rfl rfl (by kernel_rfl) (sliced_some b 0 _ _ c0z 1) rfl rfl (fun a w => run_callFunc_extern (P := Try.prog) (f := 106) (fn := _) rfl (by kernel_rfl) (by kernel_rfl) (by kernel_rfl) (by kernel_rfl) a w) (fun e => hne e.symm) ⟨_, _, (hI.putcells (j := 0) (vs := []) 1 rfl).1⟩ ⟨_, _, (hI.putcells (j := 0) (vs := []) 0 rfl).1, by rw [List.size_toArray]; omega⟩ ?_
      refine o_batch 7 [] [.p] [(68, .bool true)] [] trivial trivial (by kernel_rfl) (by kernel_rfl) (by kernel_rfl) ?_
      refine r_out (by kernel_rfl) ?_
      refine go_then (by kernel_rfl) ?_
      repeat refine go_seq ?_
      have hw4 : (w64 ((a0.length : Int) + (a2.length : Int))).toNat = a0.length + a2.length := by rw [hs1]; omega
      refine d_tail' 8 _ [] [.p, .p, .p, .p, .x, .p, .p, .x] [(69, .slice (some ⟨b, 0, none⟩) (w64 ((a0.length : Int) + (a2.length : Int))).toNat c0z), (70, .int .i64 a1), (71, .int .i64 (a2.length : Int)), (72, .int .i64 (w64 (a1 + (a2.length : Int)))), (73, sliced (some ⟨b, 0, none⟩) (w64 (a1 + (a2.length : Int))).toNat ((w64 ((a0.length : Int) + (a2.length : Int))).toNat : Int).toNat c0z 1), (74, .slice (some ⟨b, 0, none⟩) (w64 ((a0.length : Int) + (a2.length : Int))).toNat c0z), (75, .int .i64 a1), (76, sliced (some ⟨b, 0, none⟩) a1.toNat ((w64 ((a0.length : Int) + (a2.length : Int))).toNat : Int).toNat c0z 1)]
        [((w64 (a1 + (a2.length : Int))), ((w64 ((a0.length : Int) + (a2.length : Int))).toNat : Int).toNat + 1), (((w64 ((a0.length : Int) + (a2.length : Int))).toNat : Int), c0z + 1), (a1, ((w64 ((a0.length : Int) + (a2.length : Int))).toNat : Int).toNat + 1), (((w64 ((a0.length : Int) + (a2.length : Int))).toNat : Int), c0z + 1)] (by kernel_rfl) (by kernel_rfl) rfl rfl trivial ⟨⟨by omega, by omega⟩, ⟨by omega, by omega⟩, ⟨g0, by omega⟩, ⟨by omega, by omega⟩, trivial⟩ (by kernel_rfl) (by kernel_rfl) (by kernel_rfl) (by kernel_rfl) hI ?_
      clear hI
      intro _ hI _
      have hss := Src.of_blk (sz := 1) (l := a1.toNat) (h := ((w64 ((a0.length : Int) + (a2.length : Int))).toNat : Int).toNat) (m := c0z) hI 0 rfl (by omega) (by omega) (by omega)
      have hk2 : Nat.min (((w64 ((a0.length : Int) + (a2.length : Int))).toNat : Int).toNat - a1.toNat) (((w64 ((a0.length : Int) + (a2.length : Int))).toNat : Int).toNat - (w64 (a1 + (a2.length : Int))).toNat) = a0.length - a1.toNat := by
        rw [hs2]
        exact (Nat.min_eq_right (by omega)).trans (by omega)
      have hdl : ((a0.drop a1.toNat).flatMap (fun x : Int => ([.int .i64 x] : List Value))).length = (a0.length - a1.toNat) * 1 := by rw [flatMap_len hen, List.length_drop]
      refine e_copy _ _ 22 22 2 _ 1 0 b (w64 (a1 + (a2.length : Int))).toNat ((w64 ((a0.length : Int) + (a2.length : Int))).toNat : Int).toNat c0z (((w64 ((a0.length : Int) + (a2.length : Int))).toNat : Int).toNat - a1.toNat) _ _ _ rfl (by kernel_rfl) (by kernel_rfl) rfl rfl rfl hI rfl hss (by omega) (by omega) (by omega) ?_ ?_
      · rw [hk2, List.take_take, Nat.min_eq_left (by omega), hpc]
        exact flats_one (tInt .i64) _
      clear hI
      rw [hk2, List.take_take, Nat.min_eq_left (by omega), hpc, hs2, hw2]
      intro _ hI
      repeat refine go_seq ?_
      refine r_in ?_
      refine o_batch 0 [] [.p, .p, .x, .p] [(78, .slice (some ⟨b, 0, none⟩) (w64 ((a0.length : Int) + (a2.length : Int))).toNat c0z), (79, .int .i64 a1), (80, sliced (some ⟨b, 0, none⟩) a1.toNat ((w64 ((a0.length : Int) + (a2.length : Int))).toNat : Int).toNat c0z 1), (81, .slice (some ⟨b2, 0, none⟩) a2.length c2z)] [(a1, ((w64 ((a0.length : Int) + (a2.length : Int))).toNat : Int).toNat + 1), (((w64 ((a0.length : Int) + (a2.length : Int))).toNat : Int), c0z + 1)] trivial ⟨⟨g0, by omega⟩, ⟨by omega, by omega⟩, trivial⟩ (by kernel_rfl) (by kernel_rfl) (by kernel_rfl) ?_
      have hsv := Src.front (sz := 1) (n := a2.length) (c := c2z) hI 1 rfl (by omega)
      rw [hbt2] at hsv
      have hsp : (splice bs ((a1.toNat + a2.length) * 1) ((a0.drop a1.toNat).flatMap (fun x : Int => ([.int .i64 x] : List Value)))).length = bs.length := splice_len (by omega)
      refine o_eff 4 _ rfl (by kernel_rfl) ?_
      refine e_copy _ _ 22 22 2 _ 1 0 b a1.toNat ((w64 ((a0.length : Int) + (a2.length : Int))).toNat : Int).toNat c0z a2.length _ _ _ rfl (by kernel_rfl) (by kernel_rfl) rfl rfl rfl hI rfl hsv (by omega) (by omega) (by rw [hsp]; omega) (fun v hv => flats_one (tInt .i64) _ v (List.mem_of_mem_take hv)) ?_
      clear hI
      have hk1 : Nat.min a2.length (((w64 ((a0.length : Int) + (a2.length : Int))).toNat : Int).toNat - a1.toNat) = a2.length := Nat.min_eq_left (by omega)
      have hvl : (a2.flatMap (fun x : Int => ([.int .i64 x] : List Value))).length = a2.length * 1 := flatMap_len hen a2
      rw [hk1, List.take_of_length_le (by omega)]
      intro _ hI
      refine r_out (by kernel_rfl) ?_
      repeat refine go_seq ?_
      refine r_in ?_
      refine o_batch 0 [] [.p, .p] [(83, .slice (some ⟨b, 0, none⟩) (w64 ((a0.length : Int) + (a2.length : Int))).toNat c0z), (6, .slice (some ⟨b, 0, none⟩) (w64 ((a0.length : Int) + (a2.length : Int))).toNat c0z)] [] trivial trivial (by kernel_rfl) (by kernel_rfl) (by kernel_rfl) ?_
      refine r_out (by kernel_rfl) ?_
      refine go_return (.slice (some ⟨b, 0, none⟩) (w64 ((a0.length : Int) + (a2.length : Int))).toNat c0z) Try.func102 (by kernel_rfl) ⟨some ⟨b, 0, none⟩, c0z, by rw [hrl, hw4], ?_⟩
      refine Inv.pick (hI.closerow (kt := (tInt .i64)) 0 (a0.take a1.toNat ++ a2 ++ a0.drop a1.toNat) rfl ?_ ?_ (by omega) hcm) [0] (by decide) rfl
      · rw [splice_len (by omega), hsp, hsz, hbl]
      · rw [hrl, hsz]
        exact ins_cells2 hen hbi (by omega) (by omega)

/-! ### state.set .with -/
theorem enter99 (a : Array Value) : Sem.pureRun Try.prog (callFunc 99 a) = some (.enter 99 a) := by kernel_rfl
theorem state_set_with_calls (a0 : Unit) (A1z : Option Addr) (c1z : Nat) (a1 : List Int) (a2 : Int) (M : Mem) (w : World) (hI : Inv M w []) (hr1z : rdS (tInt .i64) M.blk A1z a1) (hl1z : a1.length ≤ c1z) (r : List Int) (H : state_set_with a0 a1 a2 = some r) :
    Calls Try.prog 99 #[.agg #[], .slice A1z a1.length c1z, .int .i64 a2] w fun e w' => ∃ (A50 : Option Addr) (c51 : Nat), e = .returned (.slice A50 r.length c51) ∧ Inv M w' [.row (tInt .i64) 2 A50 r.length c51 r] := by
  refine calls_go (updL (fun _ => undef) [(0, .agg #[]), (1, .slice A1z a1.length c1z), (2, .int .i64 a2)]) Try.func99 rfl (by kernel_rfl) ?_
  intro cs
  unfold state_set_with at H
  refine go_seq ?_
  refine r_in ?_
  refine o_eff 0 _ rfl (by kernel_rfl) ?_
  refine e_box 85 _ (.agg #[]) [] rfl (by kernel_rfl) rfl hI ?_
  clear hI
  intro b2 _ hI
  refine o_batch 1 [] [.p] [(6, .slice none 0 0)] [] trivial trivial (by kernel_rfl) (by kernel_rfl) (by kernel_rfl) ?_
  refine r_out (by kernel_rfl) ?_
  refine go_seq ?_
  refine r_in ?_
  refine o_batch 0 [] [.p, .p] [(10, .slice A1z a1.length c1z), (11, .int .i64 a2)] [] trivial trivial (by kernel_rfl) (by kernel_rfl) (by kernel_rfl) ?_
  replace H := bind_some H
  obtain ⟨y5, hy6, H⟩ := H
  refine o_eff 2 _ rfl (by kernel_rfl) ?_
  refine e_callf _ _ _ 101 #[] #[] #[.slice A1z a1.length c1z, .int .i64 a2] #[.slice A1z a1.length c1z, .int .i64 a2] rfl (by kernel_rfl) (by kernel_rfl) (by kernel_rfl) (enter101 _) (slices_BinarySearch_int64zcalls A1z c1z a1 a2 (memOf _) _ (Inv.start _) (hI.rd hr1z) hl1z _ hy6) ?_
  rintro _ _ ⟨rfl, hI'⟩
  replace hI := hI.call0 hI'
  clear hI'
  refine ⟨_, rfl, ?_⟩
  refine o_batch 3 [] [.p, .p, .p, .p, .p] [(9, .tuple #[.int .i64 y5.1, .bool y5.2]), (13, .int .i64 y5.1), (14, .bool y5.2), (7, .int .i64 y5.1), (8, .bool y5.2)] [] trivial trivial (by kernel_rfl) (by kernel_rfl) (by kernel_rfl) ?_
  refine r_out (by kernel_rfl) ?_
  refine go_seq ?_
  refine go_seq ?_
  refine r_in ?_
  refine o_batch 0 [] [.p] [(15, .bool y5.2)] [] trivial trivial (by kernel_rfl) (by kernel_rfl) (by kernel_rfl) ?_
  refine r_out (by kernel_rfl) ?_
  replace H := cond_some H
  rcases H with ⟨hc12, H⟩ | ⟨hc12, H⟩
  · refine go_then' (t := y5.2) (by kernel_rfl) hc12 ?_
    refine go_seq ?_
    refine r_in ?_
    refine o_batch 0 [] [.p] [(16, .slice A1z a1.length c1z)] [] trivial trivial (by kernel_rfl) (by kernel_rfl) (by kernel_rfl) ?_
    replace H := bind_some H
    obtain ⟨y17, hy18, H⟩ := H
    refine o_eff 1 _ rfl (by kernel_rfl) ?_
    refine e_callf _ _ _ 52 #[] #[] #[.slice A1z a1.length c1z] #[.slice A1z a1.length c1z] rfl (by kernel_rfl) (by kernel_rfl) (by kernel_rfl) (enter52 _) (slices_Clone_int64zcalls A1z c1z a1 (memOf _) _ (Inv.start _) (hI.rd hr1z) hl1z _ hy18) ?_
    rintro _ _ ⟨A19, c20, rfl, hI'⟩
    replace hI := hI.call0 hI'
    clear hI'
    refine ⟨_, rfl, ?_⟩
    refine o_batch 2 [] [.p] [(6, .slice A19 y17.length c20)] [] trivial trivial (by kernel_rfl) (by kernel_rfl) (by kernel_rfl) ?_
    refine r_out (by kernel_rfl) ?_
    replace H := Option.some.inj H
    subst H
    exact go_return (.slice A19 y17.length c20) Try.func99 (by kernel_rfl) ⟨A19, c20, rfl, hI.pick [1] (by decide) rfl⟩
  · refine go_else' (t := y5.2) (by kernel_rfl) hc12 ?_
    refine go_skip ?_
    refine go_seq ?_
    refine r_in ?_
    refine o_batch 0 [] [.p] [(18, .slice A1z a1.length c1z)] [] trivial trivial (by kernel_rfl) (by kernel_rfl) (by kernel_rfl) ?_
    replace H := bind_some H
    obtain ⟨y35, hy36, H⟩ := H
    refine o_eff 1 _ rfl (by kernel_rfl) ?_
    refine e_callf _ _ _ 52 #[] #[] #[.slice A1z a1.length c1z] #[.slice A1z a1.length c1z] rfl (by kernel_rfl) (by kernel_rfl) (by kernel_rfl) (enter52 _) (slices_Clone_int64zcalls A1z c1z a1 (memOf _) _ (Inv.start _) (hI.rd hr1z) hl1z _ hy36) ?_
    rintro _ _ ⟨A37, c38, rfl, hI'⟩
    replace hI := hI.call0 hI'
    clear hI'
    refine ⟨_, rfl, ?_⟩
    refine o_batch 2 [] [.p, .p] [(20, .int .i64 y5.1), (21, .int .i64 a2)] [] trivial trivial (by kernel_rfl) (by kernel_rfl) (by kernel_rfl) ?_
    refine o_eff 4 _ rfl (by kernel_rfl) ?_
    refine e_parts 22 2 1 _ _ _ #[.int .i64 a2] [.int .i64 a2] rfl rfl rfl rfl (by kernel_rfl) (by kernel_rfl) (by kernel_rfl) (by kernel_rfl) hI ?_
    clear hI
    intro b39 _ hI
    replace hI := hI.asrow (k := (tInt .i64)) (xs := ([a2] : List Int)) (cs := [.int .i64 a2]) (R := []) (L' := [.blk b2 85 [], .row (tInt .i64) 2 A37 y35.length c38 y35]) 1 2 [] [0, 1] (by decide) rfl (mks_cons (mk_flat (k := (tInt .i64)) a2 [.int .i64 a2] rfl) mks_nil) rfl rfl (by kernel_rfl)
    replace H := bind_some H
    obtain ⟨y45, hy46, H⟩ := H
    refine o_is 22 (.slice (some ⟨b39, 0, none⟩) 1 1) (.slice (some ⟨b39, 0, none⟩) (([a2] : List Int).length) 1) (by kernel_rfl) (by first | rfl | simp only [List.length_set, List.length_replicate, List.length_nil]) ?_
    refine o_is 22 (.slice (some ⟨b39, 0, none⟩) 1 1) (.slice (some ⟨b39, 0, none⟩) (([a2] : List Int).length) 1) (by kernel_rfl) (by first | rfl | simp only [List.length_set, List.length_replicate, List.length_nil]) ?_
    replace hI := hI.renum 0 rfl
    obtain ⟨M40, hJ41, hs42, hro43, hback44⟩ := hI.call (R := [.row (tInt .i64) 2 A37 y35.length c38 y35, .row (tInt .i64) 2 (some ⟨b39, 0, none⟩) (([a2] : List Int).length) 1 ([a2] : List Int)]) (L0 := [.blk b2 85 []]) [2, 0] [1] (by decide) rfl
    refine o_eff 5 _ rfl (by kernel_rfl) ?_
    refine e_callf _ _ _ 102 #[] #[] #[.slice A37 y35.length c38, .int .i64 y5.1, .slice (some ⟨b39, 0, none⟩) (([a2] : List Int).length) 1] #[.slice A37 y35.length c38, .int .i64 y5.1, .slice (some ⟨b39, 0, none⟩) (([a2] : List Int).length) 1] rfl (by kernel_rfl) (by kernel_rfl) (by kernel_rfl) (enter102 _) (slices_Insert_int64zcalls A37 c38 y35 y5.1 (some ⟨b39, 0, none⟩) 1 ([a2] : List Int) M40 _ hJ41 _ hy46) ?_
    rintro _ _ ⟨A47, c48, rfl, hI'⟩
    replace hI := hback44 _ _ hI'
    clear hI'
    refine ⟨_, rfl, ?_⟩
    refine o_batch 6 [] [.p] [(6, .slice A47 y45.length c48)] [] trivial trivial (by kernel_rfl) (by kernel_rfl) (by kernel_rfl) ?_
    refine r_out (by kernel_rfl) ?_
    replace H := Option.some.inj H
    subst H
    exact go_return (.slice A47 y45.length c48) Try.func99 (by kernel_rfl) ⟨A47, c48, rfl, hI.pick [0] (by decide) rfl⟩

/-! ### state.counter .with -/
theorem enter113 (a : Array Value) : Sem.pureRun Try.prog (callFunc 113 a) = some (.enter 113 a) := by kernel_rfl
theorem state_counter_with_calls (a0 : Unit) (A1z : Option Addr) (c1z : Nat) (a1 : List Int) (a2 : Int) (M : Mem) (w : World) (hI : Inv M w []) (hr1z : rdS (tInt .i64) M.blk A1z a1) (hl1z : a1.length ≤ c1z) (r : List Int) (H : state_counter_with a0 a1 a2 = some r) :
    Calls Try.prog 113 #[.agg #[], .slice A1z a1.length c1z, .int .i64 a2] w fun e w' => ∃ (A12 : Option Addr) (c13 : Nat), e = .returned (.slice A12 r.length c13) ∧ Inv M w' [.row (tInt .i64) 2 A12 r.length c13 r] := by
  refine calls_go (updL (fun _ => undef) [(0, .agg #[]), (1, .slice A1z a1.length c1z), (2, .int .i64 a2)]) Try.func113 rfl (by kernel_rfl) ?_
  intro cs
  unfold state_counter_with at H
  refine go_seq ?_
  refine r_in ?_
  refine o_eff 0 _ rfl (by kernel_rfl) ?_
  refine e_box 86 _ (.agg #[]) [] rfl (by kernel_rfl) rfl hI ?_
  clear hI
  intro b2 _ hI
  refine o_batch 1 [] [.p] [(6, .slice none 0 0)] [] trivial trivial (by kernel_rfl) (by kernel_rfl) (by kernel_rfl) ?_
  refine r_out (by kernel_rfl) ?_
  refine go_seq ?_
  refine r_in ?_
  replace H := must_some H
  obtain ⟨g7, H⟩ := H
  obtain ⟨b8, q9, rfl, _⟩ := rdS.fopen hr1z rfl g7
  refine o_batch 0 [(b8, q9 + (0 : Int).toNat * 1, [.int .i64 (idx a1 (0 : Int))])] [.p, .x, .l 0 0, .p, .p] [(7, .slice (some ⟨b8, q9, none⟩) a1.length c1z), (8, .pointer (some ⟨b8, q9 + (0 : Int).toNat * 1, none⟩)), (9, .int .i64 (idx a1 (0 : Int))), (10, .int .i64 a2), (11, .int .i64 (w64 ((idx a1 (0 : Int)) + a2)))] [(0, a1.length)] ⟨(hI.lies (rdS.flook hr1z rfl g7)), trivial⟩ ⟨g7, trivial⟩ (by kernel_rfl) (by kernel_rfl) (by kernel_rfl) ?_
  refine o_eff 5 _ rfl (by kernel_rfl) ?_
  refine e_parts 22 2 1 _ _ _ #[.int .i64 (w64 ((idx a1 (0 : Int)) + a2))] [.int .i64 (w64 ((idx a1 (0 : Int)) + a2))] rfl rfl rfl rfl (by kernel_rfl) (by kernel_rfl) (by kernel_rfl) (by kernel_rfl) hI ?_
  clear hI
  intro b10 _ hI
  replace hI := hI.asrow (k := (tInt .i64)) (xs := ([w64 ((idx a1 (0 : Int)) + a2)] : List Int)) (cs := [.int .i64 (w64 ((idx a1 (0 : Int)) + a2))]) (R := []) (L' := [.blk b2 86 []]) 1 1 [] [0] (by decide) rfl (mks_cons (mk_flat (k := (tInt .i64)) (w64 ((idx a1 (0 : Int)) + a2)) [.int .i64 (w64 ((idx a1 (0 : Int)) + a2))] rfl) mks_nil) rfl rfl (by kernel_rfl)
  refine o_batch 6 [] [.p] [(6, .slice (some ⟨b10, 0, none⟩) 1 1)] [] trivial trivial (by kernel_rfl) (by kernel_rfl) (by kernel_rfl) ?_
  refine r_out (by kernel_rfl) ?_
  refine go_is 6 (.slice (some ⟨b10, 0, none⟩) 1 1) (.slice (some ⟨b10, 0, none⟩) (([w64 ((idx a1 (0 : Int)) + a2)] : List Int).length) 1) (by kernel_rfl) (by first | rfl | simp only [List.length_set, List.length_replicate, List.length_nil]) ?_
  replace hI := hI.renum 0 rfl
  replace H := Option.some.inj H
  subst H
  exact go_return (.slice (some ⟨b10, 0, none⟩) (([w64 ((idx a1 (0 : Int)) + a2)] : List Int).length) 1) Try.func113 (by kernel_rfl) ⟨(some ⟨b10, 0, none⟩), 1, rfl, hI.pick [0] (by decide) rfl⟩

/-! ### state.Apply -/
theorem enter15 (a : Array Value) : Sem.pureRun Try.prog (callFunc 15 a) = some (.enter 15 a) := by kernel_rfl
theorem state_Apply_calls (a0 : Int) (A1z : Option Addr) (c1z : Nat) (a1 : List Int) (a2 : Int) (M : Mem) (w : World) (hI : Inv M w []) (hr1z : rdS (tInt .i64) M.blk A1z a1) (hl1z : a1.length ≤ c1z) (r : List Int × Int) (H : state_Apply a0 a1 a2 = some r) :
    Calls Try.prog 15 #[.int .i64 a0, .slice A1z a1.length c1z, .int .i64 a2] w fun e w' => ∃ (A62 : Option Addr) (c63 : Nat), e = .returned (.tuple #[.slice A62 r.1.length c63, .int .i64 r.2]) ∧ Inv M w' [.row (tInt .i64) 2 A62 r.1.length c63 r.1] := by
  refine calls_go (updL (fun _ => undef) [(0, .int .i64 a0), (1, .slice A1z a1.length c1z), (2, .int .i64 a2)]) Try.func15 rfl (by kernel_rfl) ?_
  intro cs
  unfold state_Apply at H
  refine go_seq ?_
  refine r_in ?_
  refine o_batch 0 [] [.p, .p] [(6, .slice none 0 0), (7, .int .i64 0)] [] trivial trivial (by kernel_rfl) (by kernel_rfl) (by kernel_rfl) ?_
  refine r_out (by kernel_rfl) ?_
  refine go_seq ?_
  refine go_seq ?_
  refine r_in ?_
  refine o_batch 0 [] [.p, .p] [(10, .int .i64 a0), (11, .slice A1z a1.length c1z)] [] trivial trivial (by kernel_rfl) (by kernel_rfl) (by kernel_rfl) ?_
  replace H := bind_some H
  obtain ⟨y6, hy7, H⟩ := H
  refine o_eff 2 _ rfl (by kernel_rfl) ?_
  refine e_callf _ _ _ 21 #[] #[] #[.int .i64 a0, .slice A1z a1.length c1z] #[.int .i64 a0, .slice A1z a1.length c1z] rfl (by kernel_rfl) (by kernel_rfl) (by kernel_rfl) (enter21 _) (state_Check_calls a0 A1z c1z a1 (memOf _) _ (Inv.start _) (hI.rd hr1z) hl1z _ hy7) ?_
  rintro _ _ ⟨rfl, hI'⟩
  replace hI := hI.call0 hI'
  clear hI'
  refine ⟨_, rfl, ?_⟩
  refine o_batch 3 [] [.p] [(8, .int .i64 y6)] [] trivial trivial (by kernel_rfl) (by kernel_rfl) (by kernel_rfl) ?_
  refine r_out (by kernel_rfl) ?_
  refine go_seq ?_
  refine r_in ?_
  refine o_batch 0 [] [.p, .p] [(13, .int .i64 y6), (14, .bool (y6 != 0))] [] trivial trivial (by kernel_rfl) (by kernel_rfl) (by kernel_rfl) ?_
  refine r_out (by kernel_rfl) ?_
  replace H := cond_some H
  rcases H with ⟨hc8, H⟩ | ⟨hc8, H⟩
  · refine go_then' (t := (y6 != 0)) (by kernel_rfl) hc8 ?_
    refine go_seq ?_
    refine r_in ?_
    refine o_batch 0 [] [.p, .p, .p] [(15, .int .i64 y6), (6, .slice none 0 0), (7, .int .i64 y6)] [] trivial trivial (by kernel_rfl) (by kernel_rfl) (by kernel_rfl) ?_
    refine r_out (by kernel_rfl) ?_
    replace H := Option.some.inj H
    subst H
    exact go_return (.tuple #[.slice none 0 0, .int .i64 y6]) Try.func15 (by kernel_rfl) ⟨none, 0, rfl, (hI.nilrow (tInt .i64) 2)⟩
  · refine go_else' (t := (y6 != 0)) (by kernel_rfl) hc8 ?_
    refine go_skip ?_
    refine go_seq_join (o := r) (fun l32 f w => ∃ (j : Nat → Value) (A33 : Option Addr) (c34 : Nat), f = updL j [(9, .slice A33 l32.length c34)] ∧ Inv M w [.row (tInt .i64) 2 A33 l32.length c34 l32]) (fun l32 => state_Apply.j1 l32) ?_ (fun hJ35 => ?_)
    · clear H hI
      rintro l32 _ _ ⟨_, A33, c34, rfl, hI⟩ H
      refine go_seq ?_
      refine go_seq ?_
      refine r_in ?_
      refine o_batch 0 [] [.p, .p, .p] [(21, .slice A33 l32.length c34), (22, .int .i64 (l32.length : Int)), (23, .bool (decide ((l32.length : Int) > 64)))] [] trivial trivial (by kernel_rfl) (by kernel_rfl) (by kernel_rfl) ?_
      refine r_out (by kernel_rfl) ?_
      replace H := cond_some H
      rcases H with ⟨hc37, H⟩ | ⟨hc37, H⟩
      · refine go_then' (t := decide ((l32.length : Int) > 64)) (by kernel_rfl) hc37 ?_
        refine go_seq ?_
        refine r_in ?_
        refine o_batch 0 [] [.p, .p] [(6, .slice none 0 0), (7, .int .i64 2)] [] trivial trivial (by kernel_rfl) (by kernel_rfl) (by kernel_rfl) ?_
        refine r_out (by kernel_rfl) ?_
        replace H := Option.some.inj H
        subst H
        exact go_return (.tuple #[.slice none 0 0, .int .i64 2]) Try.func15 (by kernel_rfl) ⟨none, 0, rfl, (hI.nilrow (tInt .i64) 2).pick [1] (by decide) rfl⟩
      · refine go_else' (t := decide ((l32.length : Int) > 64)) (by kernel_rfl) hc37 ?_
        refine go_skip ?_
        refine go_seq ?_
        refine r_in ?_
        refine o_batch 0 [] [.p, .p, .p] [(24, .slice A33 l32.length c34), (6, .slice A33 l32.length c34), (7, .int .i64 0)] [] trivial trivial (by kernel_rfl) (by kernel_rfl) (by kernel_rfl) ?_
        refine r_out (by kernel_rfl) ?_
        replace H := Option.some.inj H
        subst H
        exact go_return (.tuple #[.slice A33 l32.length c34, .int .i64 0]) Try.func15 (by kernel_rfl) ⟨A33, c34, rfl, hI⟩
    · refine r_in ?_
      refine o_batch 0 [] [.p] [(16, .int .i64 a0)] [] trivial trivial (by kernel_rfl) (by kernel_rfl) (by kernel_rfl) ?_
      replace H := bind_some H
      obtain ⟨y38, hy39, H⟩ := H
      refine o_eff 1 _ rfl (by kernel_rfl) ?_
      refine e_callf _ _ _ 38 #[] #[] #[.int .i64 a0] #[.int .i64 a0] rfl (by kernel_rfl) (by kernel_rfl) (by kernel_rfl) (enter38 _) (state_of_calls a0 (memOf _) _ (Inv.start _) _ hy39) ?_
      rintro _ _ ⟨rfl, hI'⟩
      replace hI := hI.call0 hI'
      clear hI'
      refine ⟨_, rfl, ?_⟩
      replace H := cond_some H
      rcases H with ⟨hc40, H⟩ | ⟨hc40, H⟩
      · refine o_is 17 (ifaceV y38) (.iface 83 (.agg #[])) (by kernel_rfl) (congrArg ifaceV (eq_of_beq hc40)) ?_
        refine o_batch 2 [] [.p, .p] [(18, .slice A1z a1.length c1z), (19, .int .i64 a2)] [] trivial trivial (by kernel_rfl) (by kernel_rfl) (by kernel_rfl) ?_
        replace H := bind_some H
        obtain ⟨y41, hy42, H⟩ := H
        refine o_eff 4 _ rfl (by kernel_rfl) ?_
        refine e_enter 90 #[.agg #[], .slice A1z a1.length c1z, .int .i64 a2] (by kernel_rfl) (state_register_with_calls () A1z c1z a1 a2 (memOf _) _ (Inv.start _) (hI.rd hr1z) hl1z _ hy42) ?_
        rintro _ _ ⟨A43, c44, rfl, hI'⟩
        replace hI := hI.call0 hI'
        clear hI'
        refine ⟨_, rfl, ?_⟩
        refine o_batch 5 [] [.p] [(9, .slice A43 y41.length c44)] [] trivial trivial (by kernel_rfl) (by kernel_rfl) (by kernel_rfl) ?_
        refine r_out (by kernel_rfl) ?_
        exact hJ35 y41 _ _ ⟨_, A43, c44, at_slots _ (by kernel_rfl), hI⟩ H
      · replace H := cond_some H
        rcases H with ⟨hc45, H⟩ | ⟨hc45, H⟩
        · refine o_is 17 (ifaceV y38) (.iface 84 (.agg #[])) (by kernel_rfl) (congrArg ifaceV (eq_of_beq hc45)) ?_
          refine o_batch 2 [] [.p, .p] [(18, .slice A1z a1.length c1z), (19, .int .i64 a2)] [] trivial trivial (by kernel_rfl) (by kernel_rfl) (by kernel_rfl) ?_
          replace H := bind_some H
          obtain ⟨y46, hy47, H⟩ := H
          refine o_eff 4 _ rfl (by kernel_rfl) ?_
          refine e_enter 94 #[.agg #[], .slice A1z a1.length c1z, .int .i64 a2] (by kernel_rfl) (state_list_with_calls () A1z c1z a1 a2 (memOf _) _ (Inv.start _) (hI.rd hr1z) hl1z _ hy47) ?_
          rintro _ _ ⟨A48, c49, rfl, hI'⟩
          replace hI := hI.call0 hI'
          clear hI'
          refine ⟨_, rfl, ?_⟩
          refine o_batch 5 [] [.p] [(9, .slice A48 y46.length c49)] [] trivial trivial (by kernel_rfl) (by kernel_rfl) (by kernel_rfl) ?_
          refine r_out (by kernel_rfl) ?_
          exact hJ35 y46 _ _ ⟨_, A48, c49, at_slots _ (by kernel_rfl), hI⟩ H
        · replace H := cond_some H
          rcases H with ⟨hc50, H⟩ | ⟨hc50, H⟩
          · refine o_is 17 (ifaceV y38) (.iface 85 (.agg #[])) (by kernel_rfl) (congrArg ifaceV (eq_of_beq hc50)) ?_
            refine o_batch 2 [] [.p, .p] [(18, .slice A1z a1.length c1z), (19, .int .i64 a2)] [] trivial trivial (by kernel_rfl) (by kernel_rfl) (by kernel_rfl) ?_
            replace H := bind_some H
            obtain ⟨y51, hy52, H⟩ := H
            refine o_eff 4 _ rfl (by kernel_rfl) ?_
            refine e_enter 99 #[.agg #[], .slice A1z a1.length c1z, .int .i64 a2] (by kernel_rfl) (state_set_with_calls () A1z c1z a1 a2 (memOf _) _ (Inv.start _) (hI.rd hr1z) hl1z _ hy52) ?_
            rintro _ _ ⟨A53, c54, rfl, hI'⟩
            replace hI := hI.call0 hI'
            clear hI'
            refine ⟨_, rfl, ?_⟩
            refine o_batch 5 [] [.p] [(9, .slice A53 y51.length c54)] [] trivial trivial (by kernel_rfl) (by kernel_rfl) (by kernel_rfl) ?_
            refine r_out (by kernel_rfl) ?_
            exact hJ35 y51 _ _ ⟨_, A53, c54, at_slots _ (by kernel_rfl), hI⟩ H
          · replace H := cond_some H
            rcases H with ⟨hc55, H⟩ | ⟨hc55, H⟩
            · refine o_is 17 (ifaceV y38) (.iface 86 (.agg #[])) (by kernel_rfl) (congrArg ifaceV (eq_of_beq hc55)) ?_
              refine o_batch 2 [] [.p, .p] [(18, .slice A1z a1.length c1z), (19, .int .i64 a2)] [] trivial trivial (by kernel_rfl) (by kernel_rfl) (by kernel_rfl) ?_
              replace H := bind_some H
              obtain ⟨y56, hy57, H⟩ := H
              refine o_eff 4 _ rfl (by kernel_rfl) ?_
              refine e_enter 113 #[.agg #[], .slice A1z a1.length c1z, .int .i64 a2] (by kernel_rfl) (state_counter_with_calls () A1z c1z a1 a2 (memOf _) _ (Inv.start _) (hI.rd hr1z) hl1z _ hy57) ?_
              rintro _ _ ⟨A58, c59, rfl, hI'⟩
              replace hI := hI.call0 hI'
              clear hI'
              refine ⟨_, rfl, ?_⟩
              refine o_batch 5 [] [.p] [(9, .slice A58 y56.length c59)] [] trivial trivial (by kernel_rfl) (by kernel_rfl) (by kernel_rfl) ?_
              refine r_out (by kernel_rfl) ?_
              exact hJ35 y56 _ _ ⟨_, A58, c59, at_slots _ (by kernel_rfl), hI⟩ H
            · replace H := cond_some H
              rcases H with ⟨hc60, H⟩ | ⟨hc60, H⟩
              · refine o_is 17 (ifaceV y38) (.nilIface) (by kernel_rfl) (congrArg ifaceV (eq_of_beq hc60)) ?_
                refine o_batch 2 [] [.p, .p] [(18, .slice A1z a1.length c1z), (19, .int .i64 a2)] [] trivial trivial (by kernel_rfl) (by kernel_rfl) (by kernel_rfl) ?_
                cases H
              · cases H

/-! ### state.register .without -/
theorem enter91 (a : Array Value) : Sem.pureRun Try.prog (callFunc 91 a) = some (.enter 91 a) := by kernel_rfl
theorem state_register_without_calls (a0 : Unit) (A1z : Option Addr) (c1z : Nat) (a1 : List Int) (A2z : Option Addr) (c2z : Nat) (a2 : List Int) (M : Mem) (w : World) (hI : Inv M w []) (hr1z : rdS (tInt .i64) M.blk A1z a1) (hl1z : a1.length ≤ c1z) (hr2z : rdS (tInt .i64) M.blk A2z a2) (hl2z : a2.length ≤ c2z) (r : List Int × Bool) (H : state_register_without a0 a1 a2 = some r) :
    Calls Try.prog 91 #[.agg #[], .slice A1z a1.length c1z, .slice A2z a2.length c2z] w fun e w' => ∃ (A18 : Option Addr) (c19 : Nat), e = .returned (.tuple #[.slice A18 r.1.length c19, .bool r.2]) ∧ Inv M w' [.row (tInt .i64) 2 A18 r.1.length c19 r.1] := by
  refine calls_go (updL (fun _ => undef) [(0, .agg #[]), (1, .slice A1z a1.length c1z), (2, .slice A2z a2.length c2z)]) Try.func91 rfl (by kernel_rfl) ?_
  intro cs
  unfold state_register_without at H
  refine go_seq ?_
  refine r_in ?_
  refine o_eff 0 _ rfl (by kernel_rfl) ?_
  refine e_box 83 _ (.agg #[]) [] rfl (by kernel_rfl) rfl hI ?_
  clear hI
  intro b2 _ hI
  refine o_batch 1 [] [.p, .p] [(6, .slice none 0 0), (7, .bool false)] [] trivial trivial (by kernel_rfl) (by kernel_rfl) (by kernel_rfl) ?_
  refine r_out (by kernel_rfl) ?_
  refine go_seq ?_
  replace H := cond_some H
  rcases H with ⟨hc10, H⟩ | ⟨hc10, H⟩
  · replace H := must_some H
    obtain ⟨g11, H⟩ := H
    obtain ⟨b12, q13, rfl, _⟩ := rdS.fopen hr1z rfl g11
    replace H := must_some H
    obtain ⟨g14, H⟩ := H
    obtain ⟨b15, q16, rfl, _⟩ := rdS.fopen hr2z rfl g14
    refine d_still [(b12, q13 + (0 : Int).toNat * 1, [.int .i64 (idx a1 (0 : Int))]), (b15, q16 + (w64 ((a2.length : Int) - 1)).toNat * 1, [.int .i64 (idx a2 (w64 ((a2.length : Int) - 1)))])] [.p, .p, .p, .c true, .p, .x, .l 0 0, .p, .p, .p, .p, .x, .l 1 0, .p, .p, .p, .p] [(8, .slice (some ⟨b12, q13, none⟩) a1.length c1z), (9, .int .i64 (a1.length : Int)), (10, .bool ((a1.length : Int) == 1)), (11, .bool true), (12, .slice (some ⟨b12, q13, none⟩) a1.length c1z), (13, .pointer (some ⟨b12, q13 + (0 : Int).toNat * 1, none⟩)), (14, .int .i64 (idx a1 (0 : Int))), (15, .slice (some ⟨b15, q16, none⟩) a2.length c2z), (16, .slice (some ⟨b15, q16, none⟩) a2.length c2z), (17, .int .i64 (a2.length : Int)), (18, .int .i64 (w64 ((a2.length : Int) - 1))), (19, .pointer (some ⟨b15, q16 + (w64 ((a2.length : Int) - 1)).toNat * 1, none⟩)), (20, .int .i64 (idx a2 (w64 ((a2.length : Int) - 1)))), (21, .bool (idx a1 (0 : Int) == idx a2 (w64 ((a2.length : Int) - 1)))), (22, .bool (idx a1 (0 : Int) == idx a2 (w64 ((a2.length : Int) - 1)))), (6, .slice none 0 0), (7, .bool (idx a1 (0 : Int) == idx a2 (w64 ((a2.length : Int) - 1))))] [((bif ((a1.length : Int) == 1) == true then 0 else -1), 1), (0, a1.length), (w64 ((a2.length : Int) - 1), a2.length)] (by kernel_rfl) (by kernel_rfl) rfl ⟨(hI.lies (rdS.flook hr1z rfl g11)), (hI.lies (rdS.flook hr2z rfl g14)), trivial⟩ ⟨(bndEq hc10), g11, g14, trivial⟩ (by kernel_rfl) (by kernel_rfl) (by kernel_rfl) hI ?_
    clear hI
    intro _ hI
    replace H := Option.some.inj H
    subst H
    exact go_return (.tuple #[.slice none 0 0, .bool (idx a1 (0 : Int) == idx a2 (w64 ((a2.length : Int) - 1)))]) Try.func91 (by kernel_rfl) ⟨none, 0, rfl, (hI.nilrow (tInt .i64) 2).pick [1] (by decide) rfl⟩
  · refine d_still [] [.p, .p, .p, .c false, .p, .p, .p, .p, .p, .p, .p, .p, .p, .p, .p, .p, .p] [(8, .slice A1z a1.length c1z), (9, .int .i64 (a1.length : Int)), (10, .bool ((a1.length : Int) == 1)), (11, .bool false), (12, undef), (13, undef), (14, undef), (15, undef), (16, undef), (17, undef), (18, undef), (19, undef), (20, undef), (21, undef), (22, .bool false), (6, .slice none 0 0), (7, .bool false)] [((bif ((a1.length : Int) == 1) == false then 0 else -1), 1)] (by kernel_rfl) (by kernel_rfl) rfl trivial ⟨(bndEq hc10), trivial⟩ (by kernel_rfl) (by kernel_rfl) (by kernel_rfl) hI ?_
    clear hI
    intro _ hI
    replace H := Option.some.inj H
    subst H
    exact go_return (.tuple #[.slice none 0 0, .bool false]) Try.func91 (by kernel_rfl) ⟨none, 0, rfl, (hI.nilrow (tInt .i64) 2).pick [1] (by decide) rfl⟩

/-! ### slices.Equal   int64 int64  -/
theorem enter96 (a : Array Value) : Sem.pureRun Try.prog (callFunc 96 a) = some (.enter 96 a) := by kernel_rfl
theorem slices_Equal_int64zcalls (A0z : Option Addr) (c0z : Nat) (a0 : List Int) (A1z : Option Addr) (c1z : Nat) (a1 : List Int) (M : Mem) (w : World) (hI : Inv M w []) (hr0z : rdS (tInt .i64) M.blk A0z a0) (hl0z : a0.length ≤ c0z) (hr1z : rdS (tInt .i64) M.blk A1z a1) (hl1z : a1.length ≤ c1z) (r : Bool) (H : slices_Equal_int64 a0 a1 = some r) :
    Calls Try.prog 96 #[.slice A0z a0.length c0z, .slice A1z a1.length c1z] w fun e w' => e = .returned (.bool r) ∧ Inv M w' [] := by
  refine calls_go (updL (fun _ => undef) [(0, .slice A0z a0.length c0z), (1, .slice A1z a1.length c1z)]) Try.func96 rfl (by kernel_rfl) ?_
  intro cs
  unfold slices_Equal_int64 at H
  refine go_seq ?_
  refine r_in ?_
  refine o_batch 0 [] [.p] [(4, .bool false)] [] trivial trivial (by kernel_rfl) (by kernel_rfl) (by kernel_rfl) ?_
  refine r_out (by kernel_rfl) ?_
  refine go_seq ?_
  refine go_seq ?_
  refine r_in ?_
  refine o_batch 0 [] [.p, .p, .p, .p, .p] [(6, .slice A0z a0.length c0z), (7, .int .i64 (a0.length : Int)), (8, .slice A1z a1.length c1z), (9, .int .i64 (a1.length : Int)), (10, .bool ((a0.length : Int) != (a1.length : Int)))] [] trivial trivial (by kernel_rfl) (by kernel_rfl) (by kernel_rfl) ?_
  refine r_out (by kernel_rfl) ?_
  replace H := cond_some H
  rcases H with ⟨hc2, H⟩ | ⟨hc2, H⟩
  · refine go_then' (t := ((a0.length : Int) != (a1.length : Int))) (by kernel_rfl) hc2 ?_
    refine go_seq ?_
    refine r_in ?_
    refine o_batch 0 [] [.p] [(4, .bool false)] [] trivial trivial (by kernel_rfl) (by kernel_rfl) (by kernel_rfl) ?_
    refine r_out (by kernel_rfl) ?_
    replace H := Option.some.inj H
    subst H
    exact go_return (.bool false) Try.func96 (by kernel_rfl) ⟨rfl, hI⟩
  · refine go_else' (t := ((a0.length : Int) != (a1.length : Int))) (by kernel_rfl) hc2 ?_
    refine go_skip ?_
    refine go_seq ?_
    refine go_seq ?_
    refine r_in ?_
    refine o_batch 0 [] [.p, .p, .p] [(11, .slice A0z a0.length c0z), (12, .int .i64 (a0.length : Int)), (13, .int .i64 0)] [] trivial trivial (by kernel_rfl) (by kernel_rfl) (by kernel_rfl) ?_
    refine r_out (by kernel_rfl) ?_
    refine go_block ?_
    refine go_iter (slices_Equal_int64.s1 a0 a1) (fun x84 f w => ∃ (j : Nat → Value), f = updL j [(0, .slice A0z a0.length c0z), (1, .slice A1z a1.length c1z), (12, .int .i64 (a0.length : Int)), (13, .int .i64 x84)] ∧ Inv M w []) H ⟨_, at_slots _ (by kernel_rfl), hI⟩ ?_
    clear H hI
    rintro x84 _ _ o1 H ⟨_, rfl, hI⟩ hin1 hout1
    refine go_seq ?_
    refine r_in ?_
    refine o_batch 0 [] [.p] [(14, .bool (decide (x84 < (a0.length : Int))))] [] trivial trivial (by kernel_rfl) (by kernel_rfl) (by kernel_rfl) ?_
    refine r_out (by kernel_rfl) ?_
    refine go_seq ?_
    replace H := cond_some H
    rcases H with ⟨hc86, H⟩ | ⟨hc86, H⟩
    · refine go_then' (t := decide (x84 < (a0.length : Int))) (by kernel_rfl) hc86 ?_
      refine go_skip ?_
      refine go_seq ?_
      refine go_block ?_
      refine go_seq ?_
      refine r_in ?_
      refine o_batch 0 [] [.p, .p] [(15, .int .i64 x84), (5, .int .i64 x84)] [] trivial trivial (by kernel_rfl) (by kernel_rfl) (by kernel_rfl) ?_
      refine r_out (by kernel_rfl) ?_
      refine go_seq ?_
      replace H := must_some H
      obtain ⟨g107, H⟩ := H
      obtain ⟨b108, q109, rfl, _⟩ := rdS.fopen hr0z rfl g107
      replace H := must_some H
      obtain ⟨g110, H⟩ := H
      obtain ⟨b111, q112, rfl, _⟩ := rdS.fopen hr1z rfl g110
      refine d_still [(b108, q109 + x84.toNat * 1, [.int .i64 (idx a0 x84)]), (b111, q112 + x84.toNat * 1, [.int .i64 (idx a1 x84)])] [.p, .p, .x, .l 0 0, .p, .p, .x, .l 1 0, .p] [(16, .slice (some ⟨b108, q109, none⟩) a0.length c0z), (17, .int .i64 x84), (18, .pointer (some ⟨b108, q109 + x84.toNat * 1, none⟩)), (19, .int .i64 (idx a0 x84)), (20, .slice (some ⟨b111, q112, none⟩) a1.length c1z), (21, .int .i64 x84), (22, .pointer (some ⟨b111, q112 + x84.toNat * 1, none⟩)), (23, .int .i64 (idx a1 x84)), (24, .bool (idx a0 x84 != idx a1 x84))] [(x84, a0.length), (x84, a1.length)] (by kernel_rfl) (by kernel_rfl) rfl ⟨(hI.lies (rdS.flook hr0z rfl g107)), (hI.lies (rdS.flook hr1z rfl g110)), trivial⟩ ⟨g107, g110, trivial⟩ (by kernel_rfl) (by kernel_rfl) (by kernel_rfl) hI ?_
      clear hI
      intro _ hI
      replace H := cond_some H
      rcases H with ⟨hc113, H⟩ | ⟨hc113, H⟩
      · refine go_then' (t := (idx a0 x84 != idx a1 x84)) (by kernel_rfl) hc113 ?_
        refine go_seq ?_
        refine r_in ?_
        refine o_batch 0 [] [.p] [(4, .bool false)] [] trivial trivial (by kernel_rfl) (by kernel_rfl) (by kernel_rfl) ?_
        refine r_out (by kernel_rfl) ?_
        replace H := out_some H
        obtain ⟨_, H, he1⟩ := H
        have he := (hout1 _ he1).symm
        subst he
        replace H := Option.some.inj H
        subst H
        exact go_return (.bool false) Try.func96 (by kernel_rfl) ⟨rfl, hI⟩
      · refine go_else' (t := (idx a0 x84 != idx a1 x84)) (by kernel_rfl) hc113 ?_
        refine go_skip ?_
        refine go_inBlock ?_
        refine r_in ?_
        refine o_batch 0 [] [.p, .p] [(25, .int .i64 (w64 (x84 + 1))), (13, .int .i64 (w64 (x84 + 1)))] [] trivial trivial (by kernel_rfl) (by kernel_rfl) (by kernel_rfl) ?_
        refine r_out (by kernel_rfl) ?_
        exact hin1 _ (Option.some.inj H).symm _ _ ⟨_, at_slots _ (by kernel_rfl), hI⟩
    · refine go_else' (t := decide (x84 < (a0.length : Int))) (by kernel_rfl) hc86 ?_
      refine go_exit rfl ?_
      refine go_seq ?_
      refine r_in ?_
      refine o_batch 0 [] [.p] [(4, .bool true)] [] trivial trivial (by kernel_rfl) (by kernel_rfl) (by kernel_rfl) ?_
      refine r_out (by kernel_rfl) ?_
      replace H := out_some H
      obtain ⟨_, H, he1⟩ := H
      have he := (hout1 _ he1).symm
      subst he
      replace H := Option.some.inj H
      subst H
      exact go_return (.bool true) Try.func96 (by kernel_rfl) ⟨rfl, hI⟩

/-! ### state.list .without -/
theorem enter95 (a : Array Value) : Sem.pureRun Try.prog (callFunc 95 a) = some (.enter 95 a) := by kernel_rfl
theorem state_list_without_calls (a0 : Unit) (A1z : Option Addr) (c1z : Nat) (a1 : List Int) (A2z : Option Addr) (c2z : Nat) (a2 : List Int) (M : Mem) (w : World) (hI : Inv M w []) (hr1z : rdS (tInt .i64) M.blk A1z a1) (hl1z : a1.length ≤ c1z) (hr2z : rdS (tInt .i64) M.blk A2z a2) (hl2z : a2.length ≤ c2z) (r : List Int × Bool) (H : state_list_without a0 a1 a2 = some r) :
    Calls Try.prog 95 #[.agg #[], .slice A1z a1.length c1z, .slice A2z a2.length c2z] w fun e w' => ∃ (A51 : Option Addr) (c52 : Nat), e = .returned (.tuple #[.slice A51 r.1.length c52, .bool r.2]) ∧ Inv M w' [.row (tInt .i64) 2 A51 r.1.length c52 r.1] := by
  refine calls_go (updL (fun _ => undef) [(0, .agg #[]), (1, .slice A1z a1.length c1z), (2, .slice A2z a2.length c2z)]) Try.func95 rfl (by kernel_rfl) ?_
  intro cs
  unfold state_list_without at H
  refine go_seq ?_
  refine r_in ?_
  refine o_eff 0 _ rfl (by kernel_rfl) ?_
  refine e_box 84 _ (.agg #[]) [] rfl (by kernel_rfl) rfl hI ?_
  clear hI
  intro b2 _ hI
  refine o_batch 1 [] [.p, .p] [(6, .slice none 0 0), (7, .bool false)] [] trivial trivial (by kernel_rfl) (by kernel_rfl) (by kernel_rfl) ?_
  refine r_out (by kernel_rfl) ?_
  refine go_seq ?_
  refine r_in ?_
  refine o_batch 0 [] [.p, .p, .p, .p, .p, .p] [(9, .slice A1z a1.length c1z), (10, .int .i64 (a1.length : Int)), (11, .slice A2z a2.length c2z), (12, .int .i64 (a2.length : Int)), (13, .int .i64 (w64 ((a1.length : Int) - (a2.length : Int)))), (8, .int .i64 (w64 ((a1.length : Int) - (a2.length : Int))))] [] trivial trivial (by kernel_rfl) (by kernel_rfl) (by kernel_rfl) ?_
  refine r_out (by kernel_rfl) ?_
  refine go_seq ?_
  refine go_seq_join (o := r) (fun b21 f w => ∃ (j : Nat → Value), f = updL j [(1, .slice A1z a1.length c1z), (8, .int .i64 (w64 ((a1.length : Int) - (a2.length : Int)))), (23, .bool b21)] ∧ Inv M w []) (fun b21 => state_list_without.j1 a1 a2 b21) ?_ (fun hJ22 => ?_)
  · clear H hI
    rintro b21 _ _ ⟨_, rfl, hI⟩ H
    replace H := cond_some H
    rcases H with ⟨hc23, H⟩ | ⟨hc23, H⟩
    · refine go_then' (t := b21) (by kernel_rfl) hc23 ?_
      refine go_seq ?_
      refine r_in ?_
      refine o_batch 0 [] [.p, .p] [(6, .slice none 0 0), (7, .bool false)] [] trivial trivial (by kernel_rfl) (by kernel_rfl) (by kernel_rfl) ?_
      refine r_out (by kernel_rfl) ?_
      replace H := Option.some.inj H
      subst H
      exact go_return (.tuple #[.slice none 0 0, .bool false]) Try.func95 (by kernel_rfl) ⟨none, 0, rfl, (hI.nilrow (tInt .i64) 2)⟩
    · refine go_else' (t := b21) (by kernel_rfl) hc23 ?_
      refine go_skip ?_
      refine go_seq ?_
      refine r_in ?_
      refine o_batch 0 [] [.p, .p] [(24, .slice A1z a1.length c1z), (25, .int .i64 (w64 ((a1.length : Int) - (a2.length : Int))))] [] trivial trivial (by kernel_rfl) (by kernel_rfl) (by kernel_rfl) ?_
      replace H := must_some H
      obtain ⟨g33, H⟩ := H
      refine o_eff 2 _ rfl (by kernel_rfl) ?_
      refine e_slice_ro (tInt .i64) _ 22 2 _ _ _ _ A1z c1z a1 .i64 .i64 (0 : Int) (w64 ((a1.length : Int) - (a2.length : Int))) rfl (by kernel_rfl) (by kernel_rfl) (by kernel_rfl) rfl rfl rfl hr1z hl1z g33 ?_
      intro A34 c35 hr36 hl37
      replace H := bind_some H
      obtain ⟨y38, hy39, H⟩ := H
      refine o_eff 3 _ rfl (by kernel_rfl) ?_
      refine e_callf _ _ _ 52 #[] #[] #[.slice A34 ((subl a1 (0 : Int) (w64 ((a1.length : Int) - (a2.length : Int)))).length) c35] #[.slice A34 ((subl a1 (0 : Int) (w64 ((a1.length : Int) - (a2.length : Int)))).length) c35] rfl (by kernel_rfl) (by kernel_rfl) (by kernel_rfl) (enter52 _) (slices_Clone_int64zcalls A34 c35 (subl a1 (0 : Int) (w64 ((a1.length : Int) - (a2.length : Int)))) (memOf _) _ (Inv.start _) (hI.rd hr36) hl37 _ hy39) ?_
      rintro _ _ ⟨A40, c41, rfl, hI'⟩
      replace hI := hI.call0 hI'
      clear hI'
      refine ⟨_, rfl, ?_⟩
      refine o_batch 4 [] [.p, .p] [(6, .slice A40 y38.length c41), (7, .bool true)] [] trivial trivial (by kernel_rfl) (by kernel_rfl) (by kernel_rfl) ?_
      refine r_out (by kernel_rfl) ?_
      replace H := Option.some.inj H
      subst H
      exact go_return (.tuple #[.slice A40 y38.length c41, .bool true]) Try.func95 (by kernel_rfl) ⟨A40, c41, rfl, hI⟩
  · refine r_in ?_
    replace H := cond_some H
    rcases H with ⟨hc42, H⟩ | ⟨hc42, H⟩
    · refine o_batch 0 [] [.p, .p, .c true, .p, .p, .p, .p, .p, .p, .p] [(14, .int .i64 (w64 ((a1.length : Int) - (a2.length : Int)))), (15, .bool (decide (w64 ((a1.length : Int) - (a2.length : Int)) < 0))), (16, .bool true), (17, undef), (18, undef), (19, undef), (20, undef), (21, undef), (22, undef), (23, .bool true)] [((bif (decide (w64 ((a1.length : Int) - (a2.length : Int)) < 0)) == true then 0 else -1), 1)] trivial ⟨(bndEq hc42), trivial⟩ (by kernel_rfl) (by kernel_rfl) (by kernel_rfl) ?_
      refine r_out (by kernel_rfl) ?_
      exact hJ22 true _ _ ⟨_, at_slots _ (by kernel_rfl), hI.pick [] (by decide) rfl⟩ H
    · refine o_batch 0 [] [.p, .p, .c false, .p, .p] [(14, .int .i64 (w64 ((a1.length : Int) - (a2.length : Int)))), (15, .bool (decide (w64 ((a1.length : Int) - (a2.length : Int)) < 0))), (16, .bool false), (17, .slice A1z a1.length c1z), (18, .int .i64 (w64 ((a1.length : Int) - (a2.length : Int))))] [((bif (decide (w64 ((a1.length : Int) - (a2.length : Int)) < 0)) == false then 0 else -1), 1)] trivial ⟨(bndEq hc42), trivial⟩ (by kernel_rfl) (by kernel_rfl) (by kernel_rfl) ?_
      replace H := must_some H
      obtain ⟨g43, H⟩ := H
      refine o_eff 5 _ rfl (by kernel_rfl) ?_
      refine e_slice_ro (tInt .i64) _ 22 2 _ _ _ _ A1z c1z a1 .i64 .i64 (w64 ((a1.length : Int) - (a2.length : Int))) (a1.length : Int) rfl (by kernel_rfl) (by kernel_rfl) (by kernel_rfl) rfl rfl rfl hr1z hl1z g43 ?_
      intro A44 c45 hr46 hl47
      refine o_batch 6 [] [.p] [(20, .slice A2z a2.length c2z)] [] trivial trivial (by kernel_rfl) (by kernel_rfl) (by kernel_rfl) ?_
      replace H := bind_some H
      obtain ⟨y48, hy49, H⟩ := H
      refine o_eff 7 _ rfl (by kernel_rfl) ?_
      refine e_callf _ _ _ 96 #[] #[] #[.slice A44 ((subl a1 (w64 ((a1.length : Int) - (a2.length : Int))) (a1.length : Int)).length) c45, .slice A2z a2.length c2z] #[.slice A44 ((subl a1 (w64 ((a1.length : Int) - (a2.length : Int))) (a1.length : Int)).length) c45, .slice A2z a2.length c2z] rfl (by kernel_rfl) (by kernel_rfl) (by kernel_rfl) (enter96 _) (slices_Equal_int64zcalls A44 c45 (subl a1 (w64 ((a1.length : Int) - (a2.length : Int))) (a1.length : Int)) A2z c2z a2 (memOf _) _ (Inv.start _) (hI.rd hr46) hl47 (hI.rd hr2z) hl2z _ hy49) ?_
      rintro _ _ ⟨rfl, hI'⟩
      replace hI := hI.call0 hI'
      clear hI'
      refine ⟨_, rfl, ?_⟩
      refine o_batch 8 [] [.p, .p] [(22, .bool (!y48)), (23, .bool (!y48))] [] trivial trivial (by kernel_rfl) (by kernel_rfl) (by kernel_rfl) ?_
      refine r_out (by kernel_rfl) ?_
      exact hJ22 (!y48) _ _ ⟨_, at_slots _ (by kernel_rfl), hI.pick [] (by decide) rfl⟩ H

/-! ### slices.Delete   int64 int64  -/
theorem enter103 (a : Array Value) : Sem.pureRun Try.prog (callFunc 103 a) = some (.enter 103 a) := by kernel_rfl
theorem slices_Delete_int64zcalls (A0z : Option Addr) (c0z : Nat) (a0 : List Int) (a1 a2 : Int) (M : Mem) (w : World) (hI : Inv M w [.row (tInt .i64) 2 A0z a0.length c0z a0]) (r : List Int) (H : slices_Delete_int64 a0 a1 a2 = some r) :
    Calls Try.prog 103 #[.slice A0z a0.length c0z, .int .i64 a1, .int .i64 a2] w fun e w' => ∃ (A : Option Addr) (c : Nat), e = .returned (.slice A r.length c) ∧ Inv M w' [.row (tInt .i64) 2 A r.length c r] := by
  refine calls_go (updL (fun _ => undef) [(0, .slice A0z a0.length c0z), (1, .int .i64 a1), (2, .int .i64 a2)]) Try.func103 rfl (by kernel_rfl) ?_
  intro cs
  unfold slices_Delete_int64 at H
  replace H := must_some H
  obtain ⟨⟨g0, g1, g2⟩, H⟩ := H
  replace H := Option.some.inj H
  subst H
  have hle := hI.rowle 0 rfl
  refine go_seq ?_
  refine r_in ?_
  refine o_batch 0 [] [.p] [(6, .slice none 0 0)] [] trivial trivial (by kernel_rfl) (by kernel_rfl) (by kernel_rfl) ?_
  refine r_out (by kernel_rfl) ?_
  refine go_seq ?_
  refine r_in ?_
  refine o_batch 0 [] [.p, .p, .p, .p, .p] [(8, .slice A0z a0.length c0z), (9, .int .i64 a1), (10, .int .i64 a2), (11, .slice A0z a0.length c0z), (12, .int .i64 (a0.length : Int))] [] trivial trivial (by kernel_rfl) (by kernel_rfl) (by kernel_rfl) ?_
  refine o_eff 5 _ rfl (by kernel_rfl) ?_
  refine e_slice3 22 2 _ _ _ _ _ 1 A0z a0.length c0z .i64 .i64 .i64 a1 a2 (a0.length : Int) rfl (by kernel_rfl) (by kernel_rfl) (by kernel_rfl) (by kernel_rfl) rfl rfl rfl ⟨g0, g1, g2, by omega⟩ ?_
  refine r_out (by kernel_rfl) ?_
  repeat refine go_seq ?_
  refine r_in ?_
  refine o_batch 0 [] [.p, .p, .p] [(14, .int .i64 a1), (15, .int .i64 a2), (16, .bool (a1 == a2))] [] trivial trivial (by kernel_rfl) (by kernel_rfl) (by kernel_rfl) ?_
  refine r_out (by kernel_rfl) ?_
  rcases Bool.eq_false_or_eq_true (a1 == a2) with hc | hc
  · refine go_then' (t := (a1 == a2)) (by kernel_rfl) hc ?_
    repeat refine go_seq ?_
    refine r_in ?_
    refine o_batch 0 [] [.p, .p] [(17, .slice A0z a0.length c0z), (6, .slice A0z a0.length c0z)] [] trivial trivial (by kernel_rfl) (by kernel_rfl) (by kernel_rfl) ?_
    refine r_out (by kernel_rfl) ?_
    have he : a0.take a1.toNat ++ a0.drop a2.toNat = a0 := by rw [eq_of_beq hc, List.take_append_drop]
    rw [he]
    exact go_return (.slice A0z a0.length c0z) Try.func103 (by kernel_rfl) ⟨A0z, c0z, rfl, hI⟩
  · have hne : a1 ≠ a2 := by intro e; subst e; simp at hc
    refine go_else' (t := (a1 == a2)) (by kernel_rfl) hc ?_
    refine go_skip ?_
    repeat refine go_seq ?_
    refine r_in ?_
    refine o_batch 0 [] [.p, .p, .p] [(18, .slice A0z a0.length c0z), (19, .int .i64 (a0.length : Int)), (7, .int .i64 (a0.length : Int))] [] trivial trivial (by kernel_rfl) (by kernel_rfl) (by kernel_rfl) ?_
    refine r_out (by kernel_rfl) ?_
    obtain ⟨b, rfl⟩ := hI.rowAt 0 rfl (j := a1) ⟨g0, by omega⟩
    obtain ⟨bs, hI, hbl, hbt, _, hlc, hcm⟩ := hI.openrow 0 rfl
    have hsz : (tInt .i64).sz = 1 := rfl
    rw [hsz, Nat.mul_one] at hbl hbt
    repeat refine go_seq ?_
    have hll : (a0.length : Int).toNat = a0.length := Int.toNat_natCast _
    refine go_held (fun w => Inv M w []) (by kernel_rfl) ?_
    replace hI := hI.drew'
    refine held_batch (n := 2) [] [(0, .p), (1, .p), (2, .x), (3, .p), (4, .p), (5, .x)] [(20, .slice (some ⟨b, 0, none⟩) a0.length c0z), (21, .int .i64 a1), (22, .slice (some ⟨b, 0, none⟩) a1.toNat c0z), (23, .slice (some ⟨b, 0, none⟩) a0.length c0z), (24, .int .i64 a2), (25, sliced (some ⟨b, 0, none⟩) a2.toNat (a0.length : Int).toNat c0z 1)]
      [(a1, c0z + 1), (a2, (a0.length : Int).toNat + 1), ((a0.length : Int), c0z + 1)] [true, true, true, true, true, true, false, false] (by kernel_rfl) (fun w hS => trivial) (hI.pick [] (by decide) rfl) ⟨⟨g0, by omega⟩, ⟨by omega, by omega⟩, ⟨by omega, by omega⟩, trivial⟩ (by kernel_rfl) (by kernel_rfl) (by kernel_rfl) ?_
    have hen : ∀ x : Int, ((fun x : Int => ([.int .i64 x] : List Value)) x).length = 1 := fun _ => rfl
    have hbt' : bs.take (a0.length * 1) = a0.flatMap (fun x : Int => ([.int .i64 x] : List Value)) := by rw [Nat.mul_one]; exact hbt
    have hdc := fun zs => del_cells (zs := zs) (i := a1.toNat) (j := a2.toNat) hen rfl hbt' (by omega) (by omega) (by omega)
    have hpc := part_cells (j := a2.toNat) hen rfl hbt'
    have hsrc := Src.of_blk (sz := 1) (l := a2.toNat) (h := (a0.length : Int).toNat) (m := c0z) hI 0 rfl (by omega) (by omega) (by omega)
    refine held_one (n := 1) 6 _ rfl (by kernel_rfl) (by kernel_rfl) ?_
    refine e_append_in _ _ 22 2 _ 1 0 b a1.toNat c0z ((a0.length : Int).toNat - a2.toNat) _ bs _ rfl (by kernel_rfl) (by kernel_rfl) rfl rfl rfl hI rfl hsrc (by omega) (by simpa using hbl) ?_ ?_
    · rw [hll, hpc]
      exact flats_one (tInt .i64) _
    have hpl : ((bs.drop (a2.toNat * 1)).take (((a0.length : Int).toNat - a2.toNat) * 1)).length = (a0.length : Int).toNat - a2.toNat := by simp; omega
    clear hI
    intro _ hI
    refine ⟨hI.pick [] (by decide) rfl, ?_⟩
    refine held_batch (n := 0) [] [(7, .p)] [(0, .slice (some ⟨b, 0, none⟩) (a1.toNat + ((a0.length : Int).toNat - a2.toNat)) c0z)] [] [true, true, true, true, true, true, true, true] (by kernel_rfl) (fun w hS => trivial) (hI.pick [] (by decide) rfl) trivial (by kernel_rfl) (by kernel_rfl) (by kernel_rfl) ?_
    refine held_done (by kernel_rfl) ?_
    obtain ⟨q, hq⟩ : ∃ q, q = a1.toNat + ((a0.length : Int).toNat - a2.toNat) := ⟨_, rfl⟩
    repeat refine go_seq ?_
    refine r_in ?_
    refine o_batch 0 [] [.p, .p, .p, .p] [(27, .slice (some ⟨b, 0, none⟩) (a1.toNat + ((a0.length : Int).toNat - a2.toNat)) c0z), (28, .slice (some ⟨b, 0, none⟩) (a1.toNat + ((a0.length : Int).toNat - a2.toNat)) c0z), (29, .int .i64 ((a1.toNat + ((a0.length : Int).toNat - a2.toNat) : Nat) : Int)), (30, .int .i64 (a0.length : Int))] [] trivial trivial (by kernel_rfl) (by kernel_rfl) (by kernel_rfl) ?_
    refine o_eff 4 _ rfl (by kernel_rfl) ?_
    refine e_slice2 22 2 _ _ _ _ 1 (some ⟨b, 0, none⟩) (a1.toNat + ((a0.length : Int).toNat - a2.toNat)) c0z .i64 .i64 ((a1.toNat + ((a0.length : Int).toNat - a2.toNat) : Nat) : Int) (a0.length : Int) rfl (by kernel_rfl) (by kernel_rfl) (by kernel_rfl) rfl rfl rfl ⟨by omega, by omega, by omega⟩ ?_
    refine o_eff 5 _ rfl (by kernel_rfl) ?_
    refine e_clear _ 22 2 _ 1 _ 0 b ((a1.toNat + ((a0.length : Int).toNat - a2.toNat) : Nat) : Int).toNat (a0.length : Int).toNat c0z _ rfl (by kernel_rfl) rfl rfl rfl rfl rfl (by kernel_rfl) hI rfl (by omega) (by omega) ?_ ?_
    · rw [splice_len (by omega)]; omega
    clear hI
    intro _ vs hvs hI
    refine r_out (by kernel_rfl) ?_
    repeat refine go_seq ?_
    refine r_in ?_
    refine o_batch 0 [] [.p, .p] [(32, .slice (some ⟨b, 0, none⟩) (a1.toNat + ((a0.length : Int).toNat - a2.toNat)) c0z), (6, .slice (some ⟨b, 0, none⟩) (a1.toNat + ((a0.length : Int).toNat - a2.toNat)) c0z)] [] trivial trivial (by kernel_rfl) (by kernel_rfl) (by kernel_rfl) ?_
    refine r_out (by kernel_rfl) ?_
    have hrl : (a0.take a1.toNat ++ a0.drop a2.toNat).length = a1.toNat + ((a0.length : Int).toNat - a2.toNat) := by simp; omega
    refine go_return (.slice (some ⟨b, 0, none⟩) (a1.toNat + ((a0.length : Int).toNat - a2.toNat)) c0z) Try.func103 (by kernel_rfl) ⟨some ⟨b, 0, none⟩, c0z, by rw [hrl], ?_⟩
    refine hI.closerow (kt := tInt .i64) 0 (a0.take a1.toNat ++ a0.drop a2.toNat) rfl ?_ ?_ (by omega) hcm
    · rw [splice_len, splice_len, hbl, hsz, Nat.mul_one] <;> (try rw [splice_len]) <;> omega
    · rw [hrl, hsz]
      have := hdc vs
      simp only [hll, Int.toNat_natCast] at this ⊢
      exact this

/-! ### state.set .without -/
theorem enter100 (a : Array Value) : Sem.pureRun Try.prog (callFunc 100 a) = some (.enter 100 a) := by kernel_rfl
theorem state_set_without_calls (a0 : Unit) (A1z : Option Addr) (c1z : Nat) (a1 : List Int) (A2z : Option Addr) (c2z : Nat) (a2 : List Int) (M : Mem) (w : World) (hI : Inv M w []) (hr1z : rdS (tInt .i64) M.blk A1z a1) (hl1z : a1.length ≤ c1z) (hr2z : rdS (tInt .i64) M.blk A2z a2) (hl2z : a2.length ≤ c2z) (r : List Int × Bool) (H : state_set_without a0 a1 a2 = some r) :
    Calls Try.prog 100 #[.agg #[], .slice A1z a1.length c1z, .slice A2z a2.length c2z] w fun e w' => ∃ (A265 : Option Addr) (c266 : Nat), e = .returned (.tuple #[.slice A265 r.1.length c266, .bool r.2]) ∧ Inv M w' [.row (tInt .i64) 2 A265 r.1.length c266 r.1] := by
  refine calls_go (updL (fun _ => undef) [(0, .agg #[]), (1, .slice A1z a1.length c1z), (2, .slice A2z a2.length c2z)]) Try.func100 rfl (by kernel_rfl) ?_
  intro cs
  unfold state_set_without at H
  refine go_seq ?_
  refine r_in ?_
  refine o_eff 0 _ rfl (by kernel_rfl) ?_
  refine e_box 85 _ (.agg #[]) [] rfl (by kernel_rfl) rfl hI ?_
  clear hI
  intro b2 _ hI
  refine o_batch 1 [] [.p, .p] [(6, .slice none 0 0), (7, .bool false)] [] trivial trivial (by kernel_rfl) (by kernel_rfl) (by kernel_rfl) ?_
  refine r_out (by kernel_rfl) ?_
  refine go_seq ?_
  refine r_in ?_
  refine o_batch 0 [] [.p] [(13, .slice A1z a1.length c1z)] [] trivial trivial (by kernel_rfl) (by kernel_rfl) (by kernel_rfl) ?_
  replace H := bind_some H
  obtain ⟨y7, hy8, H⟩ := H
  refine o_eff 1 _ rfl (by kernel_rfl) ?_
  refine e_callf _ _ _ 52 #[] #[] #[.slice A1z a1.length c1z] #[.slice A1z a1.length c1z] rfl (by kernel_rfl) (by kernel_rfl) (by kernel_rfl) (enter52 _) (slices_Clone_int64zcalls A1z c1z a1 (memOf _) _ (Inv.start _) (hI.rd hr1z) hl1z _ hy8) ?_
  rintro _ _ ⟨A9, c10, rfl, hI'⟩
  replace hI := hI.call0 hI'
  clear hI'
  refine ⟨_, rfl, ?_⟩
  refine o_batch 2 [] [.p] [(8, .slice A9 y7.length c10)] [] trivial trivial (by kernel_rfl) (by kernel_rfl) (by kernel_rfl) ?_
  refine r_out (by kernel_rfl) ?_
  refine go_seq ?_
  refine go_seq ?_
  refine r_in ?_
  refine o_batch 0 [] [.p, .p, .p] [(15, .slice A2z a2.length c2z), (16, .int .i64 (a2.length : Int)), (17, .int .i64 0)] [] trivial trivial (by kernel_rfl) (by kernel_rfl) (by kernel_rfl) ?_
  refine r_out (by kernel_rfl) ?_
  refine go_block ?_
  refine go_iter (state_set_without.s1 a2) (fun (l207, x210) f w => ∃ (j : Nat → Value) (A208 : Option Addr) (c209 : Nat), f = updL j [(8, .slice A208 l207.length c209), (15, .slice A2z a2.length c2z), (16, .int .i64 (a2.length : Int)), (17, .int .i64 x210)] ∧ Inv M w [.row (tInt .i64) 2 A208 l207.length c209 l207]) H ⟨_, A9, c10, at_slots _ (by kernel_rfl), hI.pick [1] (by decide) rfl⟩ ?_
  clear H hI
  rintro ⟨l207, x210⟩ _ _ o1 H ⟨_, A208, c209, rfl, hI⟩ hin1 hout1
  refine go_seq ?_
  refine r_in ?_
  refine o_batch 0 [] [.p] [(18, .bool (decide (x210 < (a2.length : Int))))] [] trivial trivial (by kernel_rfl) (by kernel_rfl) (by kernel_rfl) ?_
  refine r_out (by kernel_rfl) ?_
  refine go_seq ?_
  replace H := cond_some H
  rcases H with ⟨hc212, H⟩ | ⟨hc212, H⟩
  · refine go_then' (t := decide (x210 < (a2.length : Int))) (by kernel_rfl) hc212 ?_
    refine go_skip ?_
    refine go_seq ?_
    refine go_block ?_
    refine go_seq ?_
    refine r_in ?_
    replace H := must_some H
    obtain ⟨g246, H⟩ := H
    obtain ⟨b247, q248, rfl, _⟩ := rdS.fopen hr2z rfl g246
    refine o_batch 0 [(b247, q248 + x210.toNat * 1, [.int .i64 (idx a2 x210)])] [.x, .l 0 0, .p] [(19, .pointer (some ⟨b247, q248 + x210.toNat * 1, none⟩)), (20, .int .i64 (idx a2 x210)), (10, .int .i64 (idx a2 x210))] [(x210, a2.length)] ⟨(hI.lies (rdS.flook hr2z rfl g246)), trivial⟩ ⟨g246, trivial⟩ (by kernel_rfl) (by kernel_rfl) (by kernel_rfl) ?_
    refine r_out (by kernel_rfl) ?_
    refine go_seq ?_
    refine r_in ?_
    refine o_batch 0 [] [.p, .p] [(22, .slice A208 l207.length c209), (23, .int .i64 (idx a2 x210))] [] trivial trivial (by kernel_rfl) (by kernel_rfl) (by kernel_rfl) ?_
    replace H := bind_some H
    obtain ⟨y251, hy252, H⟩ := H
    refine o_eff 2 _ rfl (by kernel_rfl) ?_
    refine e_callf _ _ _ 101 #[] #[] #[.slice A208 l207.length c209, .int .i64 (idx a2 x210)] #[.slice A208 l207.length c209, .int .i64 (idx a2 x210)] rfl (by kernel_rfl) (by kernel_rfl) (by kernel_rfl) (enter101 _) (slices_BinarySearch_int64zcalls A208 c209 l207 (idx a2 x210) (memOf _) _ (Inv.start _) (hI.row 0 rfl) (hI.rowle 0 rfl) _ hy252) ?_
    rintro _ _ ⟨rfl, hI'⟩
    replace hI := hI.call0 hI'
    clear hI'
    refine ⟨_, rfl, ?_⟩
    refine o_batch 3 [] [.p, .p, .p, .p, .p] [(21, .tuple #[.int .i64 y251.1, .bool y251.2]), (25, .int .i64 y251.1), (26, .bool y251.2), (11, .int .i64 y251.1), (12, .bool y251.2)] [] trivial trivial (by kernel_rfl) (by kernel_rfl) (by kernel_rfl) ?_
    refine r_out (by kernel_rfl) ?_
    refine go_seq ?_
    refine go_seq ?_
    refine r_in ?_
    refine o_batch 0 [] [.p, .p] [(27, .bool y251.2), (28, .bool (!y251.2))] [] trivial trivial (by kernel_rfl) (by kernel_rfl) (by kernel_rfl) ?_
    refine r_out (by kernel_rfl) ?_
    replace H := cond_some H
    rcases H with ⟨hc254, H⟩ | ⟨hc254, H⟩
    · refine go_then' (t := !y251.2) (by kernel_rfl) hc254 ?_
      refine go_seq ?_
      refine r_in ?_
      refine o_batch 0 [] [.p, .p] [(6, .slice none 0 0), (7, .bool false)] [] trivial trivial (by kernel_rfl) (by kernel_rfl) (by kernel_rfl) ?_
      refine r_out (by kernel_rfl) ?_
      replace H := out_some H
      obtain ⟨_, H, he1⟩ := H
      have he := (hout1 _ he1).symm
      subst he
      replace H := Option.some.inj H
      subst H
      exact go_return (.tuple #[.slice none 0 0, .bool false]) Try.func100 (by kernel_rfl) ⟨none, 0, rfl, (hI.nilrow (tInt .i64) 2).pick [1] (by decide) rfl⟩
    · refine go_else' (t := !y251.2) (by kernel_rfl) hc254 ?_
      refine go_skip ?_
      refine r_in ?_
      refine o_batch 0 [] [.p, .p, .p, .p] [(29, .slice A208 l207.length c209), (30, .int .i64 y251.1), (31, .int .i64 y251.1), (32, .int .i64 (w64 (y251.1 + 1)))] [] trivial trivial (by kernel_rfl) (by kernel_rfl) (by kernel_rfl) ?_
      replace H := bind_some H
      obtain ⟨y260, hy261, H⟩ := H
      obtain ⟨M255, hJ256, hs257, hro258, hback259⟩ := hI.call (R := [.row (tInt .i64) 2 A208 l207.length c209 l207]) (L0 := []) [0] [] (by decide) rfl
      refine o_eff 4 _ rfl (by kernel_rfl) ?_
      refine e_callf _ _ _ 103 #[] #[] #[.slice A208 l207.length c209, .int .i64 y251.1, .int .i64 (w64 (y251.1 + 1))] #[.slice A208 l207.length c209, .int .i64 y251.1, .int .i64 (w64 (y251.1 + 1))] rfl (by kernel_rfl) (by kernel_rfl) (by kernel_rfl) (enter103 _) (slices_Delete_int64zcalls A208 c209 l207 y251.1 (w64 (y251.1 + 1)) M255 _ hJ256 _ hy261) ?_
      rintro _ _ ⟨A262, c263, rfl, hI'⟩
      replace hI := hback259 _ _ hI'
      clear hI'
      refine ⟨_, rfl, ?_⟩
      refine o_batch 5 [] [.p] [(8, .slice A262 y260.length c263)] [] trivial trivial (by kernel_rfl) (by kernel_rfl) (by kernel_rfl) ?_
      refine r_out (by kernel_rfl) ?_
      refine go_inBlock ?_
      refine r_in ?_
      refine o_batch 0 [] [.p, .p] [(34, .int .i64 (w64 (x210 + 1))), (17, .int .i64 (w64 (x210 + 1)))] [] trivial trivial (by kernel_rfl) (by kernel_rfl) (by kernel_rfl) ?_
      refine r_out (by kernel_rfl) ?_
      exact hin1 _ (Option.some.inj H).symm _ _ ⟨_, A262, c263, at_slots _ (by kernel_rfl), hI⟩
  · refine go_else' (t := decide (x210 < (a2.length : Int))) (by kernel_rfl) hc212 ?_
    refine go_exit rfl ?_
    refine go_seq ?_
    refine r_in ?_
    refine o_batch 0 [] [.p, .p, .p] [(35, .slice A208 l207.length c209), (6, .slice A208 l207.length c209), (7, .bool true)] [] trivial trivial (by kernel_rfl) (by kernel_rfl) (by kernel_rfl) ?_
    refine r_out (by kernel_rfl) ?_
    replace H := out_some H
    obtain ⟨_, H, he1⟩ := H
    have he := (hout1 _ he1).symm
    subst he
    replace H := Option.some.inj H
    subst H
    exact go_return (.tuple #[.slice A208 l207.length c209, .bool true]) Try.func100 (by kernel_rfl) ⟨A208, c209, rfl, hI⟩

/-! ### state.counter .without -/
theorem enter114 (a : Array Value) : Sem.pureRun Try.prog (callFunc 114 a) = some (.enter 114 a) := by kernel_rfl
theorem state_counter_without_calls (a0 : Unit) (A1z : Option Addr) (c1z : Nat) (a1 : List Int) (A2z : Option Addr) (c2z : Nat) (a2 : List Int) (M : Mem) (w : World) (hI : Inv M w []) (hr1z : rdS (tInt .i64) M.blk A1z a1) (hl1z : a1.length ≤ c1z) (hr2z : rdS (tInt .i64) M.blk A2z a2) (hl2z : a2.length ≤ c2z) (r : List Int × Bool) (H : state_counter_without a0 a1 a2 = some r) :
    Calls Try.prog 114 #[.agg #[], .slice A1z a1.length c1z, .slice A2z a2.length c2z] w fun e w' => ∃ (A94 : Option Addr) (c95 : Nat), e = .returned (.tuple #[.slice A94 r.1.length c95, .bool r.2]) ∧ Inv M w' [.row (tInt .i64) 2 A94 r.1.length c95 r.1] := by
  refine calls_go (updL (fun _ => undef) [(0, .agg #[]), (1, .slice A1z a1.length c1z), (2, .slice A2z a2.length c2z)]) Try.func114 rfl (by kernel_rfl) ?_
  intro cs
  unfold state_counter_without at H
  refine go_seq ?_
  refine r_in ?_
  refine o_eff 0 _ rfl (by kernel_rfl) ?_
  refine e_box 86 _ (.agg #[]) [] rfl (by kernel_rfl) rfl hI ?_
  clear hI
  intro b2 _ hI
  refine o_batch 1 [] [.p, .p] [(6, .slice none 0 0), (7, .bool false)] [] trivial trivial (by kernel_rfl) (by kernel_rfl) (by kernel_rfl) ?_
  refine r_out (by kernel_rfl) ?_
  refine go_seq ?_
  refine r_in ?_
  replace H := must_some H
  obtain ⟨g6, H⟩ := H
  obtain ⟨b7, q8, rfl, _⟩ := rdS.fopen hr1z rfl g6
  refine o_batch 0 [(b7, q8 + (0 : Int).toNat * 1, [.int .i64 (idx a1 (0 : Int))])] [.p, .x, .l 0 0, .p] [(11, .slice (some ⟨b7, q8, none⟩) a1.length c1z), (12, .pointer (some ⟨b7, q8 + (0 : Int).toNat * 1, none⟩)), (13, .int .i64 (idx a1 (0 : Int))), (8, .int .i64 (idx a1 (0 : Int)))] [(0, a1.length)] ⟨(hI.lies (rdS.flook hr1z rfl g6)), trivial⟩ ⟨g6, trivial⟩ (by kernel_rfl) (by kernel_rfl) (by kernel_rfl) ?_
  refine r_out (by kernel_rfl) ?_
  refine go_seq ?_
  refine go_seq ?_
  refine r_in ?_
  refine o_batch 0 [] [.p, .p, .p] [(14, .slice A2z a2.length c2z), (15, .int .i64 (a2.length : Int)), (16, .int .i64 0)] [] trivial trivial (by kernel_rfl) (by kernel_rfl) (by kernel_rfl) ?_
  refine r_out (by kernel_rfl) ?_
  refine go_block ?_
  refine go_iter (state_counter_without.s1 a2) (fun (x75, x76) f w => ∃ (j : Nat → Value), f = updL j [(8, .int .i64 x75), (14, .slice A2z a2.length c2z), (15, .int .i64 (a2.length : Int)), (16, .int .i64 x76)] ∧ Inv M w []) H ⟨_, at_slots _ (by kernel_rfl), hI.pick [] (by decide) rfl⟩ ?_
  clear H hI
  rintro ⟨x75, x76⟩ _ _ o1 H ⟨_, rfl, hI⟩ hin1 hout1
  refine go_seq ?_
  refine r_in ?_
  refine o_batch 0 [] [.p] [(17, .bool (decide (x76 < (a2.length : Int))))] [] trivial trivial (by kernel_rfl) (by kernel_rfl) (by kernel_rfl) ?_
  refine r_out (by kernel_rfl) ?_
  refine go_seq ?_
  replace H := cond_some H
  rcases H with ⟨hc78, H⟩ | ⟨hc78, H⟩
  · refine go_then' (t := decide (x76 < (a2.length : Int))) (by kernel_rfl) hc78 ?_
    refine go_skip ?_
    refine go_seq ?_
    refine go_block ?_
    refine go_seq ?_
    refine r_in ?_
    replace H := must_some H
    obtain ⟨g88, H⟩ := H
    obtain ⟨b89, q90, rfl, _⟩ := rdS.fopen hr2z rfl g88
    refine o_batch 0 [(b89, q90 + x76.toNat * 1, [.int .i64 (idx a2 x76)])] [.x, .l 0 0, .p] [(18, .pointer (some ⟨b89, q90 + x76.toNat * 1, none⟩)), (19, .int .i64 (idx a2 x76)), (10, .int .i64 (idx a2 x76))] [(x76, a2.length)] ⟨(hI.lies (rdS.flook hr2z rfl g88)), trivial⟩ ⟨g88, trivial⟩ (by kernel_rfl) (by kernel_rfl) (by kernel_rfl) ?_
    refine r_out (by kernel_rfl) ?_
    refine r_in ?_
    refine o_batch 0 [] [.p, .p, .p, .p] [(20, .int .i64 x75), (21, .int .i64 (idx a2 x76)), (22, .int .i64 (w64 (x75 - (idx a2 x76)))), (8, .int .i64 (w64 (x75 - (idx a2 x76))))] [] trivial trivial (by kernel_rfl) (by kernel_rfl) (by kernel_rfl) ?_
    refine r_out (by kernel_rfl) ?_
    refine go_inBlock ?_
    refine r_in ?_
    refine o_batch 0 [] [.p, .p] [(23, .int .i64 (w64 (x76 + 1))), (16, .int .i64 (w64 (x76 + 1)))] [] trivial trivial (by kernel_rfl) (by kernel_rfl) (by kernel_rfl) ?_
    refine r_out (by kernel_rfl) ?_
    exact hin1 _ (Option.some.inj H).symm _ _ ⟨_, at_slots _ (by kernel_rfl), hI⟩
  · refine go_else' (t := decide (x76 < (a2.length : Int))) (by kernel_rfl) hc78 ?_
    refine go_exit rfl ?_
    refine go_seq ?_
    refine r_in ?_
    refine o_batch 0 [] [.p] [(24, .int .i64 x75)] [] trivial trivial (by kernel_rfl) (by kernel_rfl) (by kernel_rfl) ?_
    refine o_eff 1 _ rfl (by kernel_rfl) ?_
    refine e_parts 22 2 1 _ _ _ #[.int .i64 x75] [.int .i64 x75] rfl rfl rfl rfl (by kernel_rfl) (by kernel_rfl) (by kernel_rfl) (by kernel_rfl) hI ?_
    clear hI
    intro b92 _ hI
    replace hI := hI.asrow (k := (tInt .i64)) (xs := ([x75] : List Int)) (cs := [.int .i64 x75]) (R := []) (L' := []) 1 0 [] [] (by decide) rfl (mks_cons (mk_flat (k := (tInt .i64)) x75 [.int .i64 x75] rfl) mks_nil) rfl rfl (by kernel_rfl)
    refine o_batch 2 [] [.p, .p] [(6, .slice (some ⟨b92, 0, none⟩) 1 1), (7, .bool true)] [] trivial trivial (by kernel_rfl) (by kernel_rfl) (by kernel_rfl) ?_
    refine r_out (by kernel_rfl) ?_
    refine go_is 6 (.slice (some ⟨b92, 0, none⟩) 1 1) (.slice (some ⟨b92, 0, none⟩) (([x75] : List Int).length) 1) (by kernel_rfl) (by first | rfl | simp only [List.length_set, List.length_replicate, List.length_nil]) ?_
    replace hI := hI.renum 0 rfl
    replace H := out_some H
    obtain ⟨_, H, he1⟩ := H
    have he := (hout1 _ he1).symm
    subst he
    replace H := Option.some.inj H
    subst H
    exact go_return (.tuple #[.slice (some ⟨b92, 0, none⟩) (([x75] : List Int).length) 1, .bool true]) Try.func114 (by kernel_rfl) ⟨(some ⟨b92, 0, none⟩), 1, rfl, hI⟩

/-! ### state.Before -/
theorem enter16 (a : Array Value) : Sem.pureRun Try.prog (callFunc 16 a) = some (.enter 16 a) := by kernel_rfl
theorem state_Before_calls (a0 : Int) (A1z : Option Addr) (c1z : Nat) (a1 : List Int) (A2z : Option Addr) (c2z : Nat) (a2 : List Int) (M : Mem) (w : World) (hI : Inv M w []) (hr1z : rdS (tInt .i64) M.blk A1z a1) (hl1z : a1.length ≤ c1z) (hr2z : rdS (tInt .i64) M.blk A2z a2) (hl2z : a2.length ≤ c2z) (r : List Int × Bool) (H : state_Before a0 a1 a2 = some r) :
    Calls Try.prog 16 #[.int .i64 a0, .slice A1z a1.length c1z, .slice A2z a2.length c2z] w fun e w' => ∃ (A62 : Option Addr) (c63 : Nat), e = .returned (.tuple #[.slice A62 r.1.length c63, .bool r.2]) ∧ Inv M w' [.row (tInt .i64) 2 A62 r.1.length c63 r.1] := by
  refine calls_go (updL (fun _ => undef) [(0, .int .i64 a0), (1, .slice A1z a1.length c1z), (2, .slice A2z a2.length c2z)]) Try.func16 rfl (by kernel_rfl) ?_
  intro cs
  unfold state_Before at H
  refine go_seq ?_
  refine r_in ?_
  refine o_batch 0 [] [.p, .p] [(6, .slice none 0 0), (7, .bool false)] [] trivial trivial (by kernel_rfl) (by kernel_rfl) (by kernel_rfl) ?_
  refine r_out (by kernel_rfl) ?_
  refine go_seq ?_
  refine go_seq_join (o := r) (fun b9 f w => ∃ (j : Nat → Value), f = updL j [(0, .int .i64 a0), (1, .slice A1z a1.length c1z), (2, .slice A2z a2.length c2z), (16, .bool b9)] ∧ Inv M w []) (fun b9 => state_Before.j1 a0 a1 a2 b9) ?_ (fun hJ10 => ?_)
  · clear H hI
    rintro b9 _ _ ⟨_, rfl, hI⟩ H
    replace H := cond_some H
    rcases H with ⟨hc11, H⟩ | ⟨hc11, H⟩
    · refine go_then' (t := b9) (by kernel_rfl) hc11 ?_
      refine go_seq ?_
      refine r_in ?_
      refine o_batch 0 [] [.p, .p] [(6, .slice none 0 0), (7, .bool false)] [] trivial trivial (by kernel_rfl) (by kernel_rfl) (by kernel_rfl) ?_
      refine r_out (by kernel_rfl) ?_
      replace H := Option.some.inj H
      subst H
      exact go_return (.tuple #[.slice none 0 0, .bool false]) Try.func16 (by kernel_rfl) ⟨none, 0, rfl, (hI.nilrow (tInt .i64) 2)⟩
    · refine go_else' (t := b9) (by kernel_rfl) hc11 ?_
      refine go_skip ?_
      refine go_seq ?_
      refine r_in ?_
      refine o_batch 0 [] [.p] [(17, .int .i64 a0)] [] trivial trivial (by kernel_rfl) (by kernel_rfl) (by kernel_rfl) ?_
      replace H := bind_some H
      obtain ⟨y35, hy36, H⟩ := H
      refine o_eff 1 _ rfl (by kernel_rfl) ?_
      refine e_callf _ _ _ 38 #[] #[] #[.int .i64 a0] #[.int .i64 a0] rfl (by kernel_rfl) (by kernel_rfl) (by kernel_rfl) (enter38 _) (state_of_calls a0 (memOf _) _ (Inv.start _) _ hy36) ?_
      rintro _ _ ⟨rfl, hI'⟩
      replace hI := hI.call0 hI'
      clear hI'
      refine ⟨_, rfl, ?_⟩
      replace H := cond_some H
      rcases H with ⟨hc37, H⟩ | ⟨hc37, H⟩
      · refine o_is 18 (ifaceV y35) (.iface 83 (.agg #[])) (by kernel_rfl) (congrArg ifaceV (eq_of_beq hc37)) ?_
        refine o_batch 2 [] [.p, .p] [(19, .slice A1z a1.length c1z), (20, .slice A2z a2.length c2z)] [] trivial trivial (by kernel_rfl) (by kernel_rfl) (by kernel_rfl) ?_
        replace H := bind_some H
        obtain ⟨y38, hy39, H⟩ := H
        refine o_eff 4 _ rfl (by kernel_rfl) ?_
        refine e_enter 91 #[.agg #[], .slice A1z a1.length c1z, .slice A2z a2.length c2z] (by kernel_rfl) (state_register_without_calls () A1z c1z a1 A2z c2z a2 (memOf _) _ (Inv.start _) (hI.rd hr1z) hl1z (hI.rd hr2z) hl2z _ hy39) ?_
        rintro _ _ ⟨A40, c41, rfl, hI'⟩
        replace hI := hI.call0 hI'
        clear hI'
        refine ⟨_, rfl, ?_⟩
        refine o_batch 5 [] [.p, .p, .p, .p] [(22, .slice A40 y38.1.length c41), (23, .bool y38.2), (6, .slice A40 y38.1.length c41), (7, .bool y38.2)] [] trivial trivial (by kernel_rfl) (by kernel_rfl) (by kernel_rfl) ?_
        refine r_out (by kernel_rfl) ?_
        replace H := Option.some.inj H
        subst H
        exact go_return (.tuple #[.slice A40 y38.1.length c41, .bool y38.2]) Try.func16 (by kernel_rfl) ⟨A40, c41, rfl, hI⟩
      · replace H := cond_some H
        rcases H with ⟨hc42, H⟩ | ⟨hc42, H⟩
        · refine o_is 18 (ifaceV y35) (.iface 84 (.agg #[])) (by kernel_rfl) (congrArg ifaceV (eq_of_beq hc42)) ?_
          refine o_batch 2 [] [.p, .p] [(19, .slice A1z a1.length c1z), (20, .slice A2z a2.length c2z)] [] trivial trivial (by kernel_rfl) (by kernel_rfl) (by kernel_rfl) ?_
          replace H := bind_some H
          obtain ⟨y43, hy44, H⟩ := H
          refine o_eff 4 _ rfl (by kernel_rfl) ?_
          refine e_enter 95 #[.agg #[], .slice A1z a1.length c1z, .slice A2z a2.length c2z] (by kernel_rfl) (state_list_without_calls () A1z c1z a1 A2z c2z a2 (memOf _) _ (Inv.start _) (hI.rd hr1z) hl1z (hI.rd hr2z) hl2z _ hy44) ?_
          rintro _ _ ⟨A45, c46, rfl, hI'⟩
          replace hI := hI.call0 hI'
          clear hI'
          refine ⟨_, rfl, ?_⟩
          refine o_batch 5 [] [.p, .p, .p, .p] [(22, .slice A45 y43.1.length c46), (23, .bool y43.2), (6, .slice A45 y43.1.length c46), (7, .bool y43.2)] [] trivial trivial (by kernel_rfl) (by kernel_rfl) (by kernel_rfl) ?_
          refine r_out (by kernel_rfl) ?_
          replace H := Option.some.inj H
          subst H
          exact go_return (.tuple #[.slice A45 y43.1.length c46, .bool y43.2]) Try.func16 (by kernel_rfl) ⟨A45, c46, rfl, hI⟩
        · replace H := cond_some H
          rcases H with ⟨hc47, H⟩ | ⟨hc47, H⟩
          · refine o_is 18 (ifaceV y35) (.iface 85 (.agg #[])) (by kernel_rfl) (congrArg ifaceV (eq_of_beq hc47)) ?_
            refine o_batch 2 [] [.p, .p] [(19, .slice A1z a1.length c1z), (20, .slice A2z a2.length c2z)] [] trivial trivial (by kernel_rfl) (by kernel_rfl) (by kernel_rfl) ?_
            replace H := bind_some H
            obtain ⟨y48, hy49, H⟩ := H
            refine o_eff 4 _ rfl (by kernel_rfl) ?_
            refine e_enter 100 #[.agg #[], .slice A1z a1.length c1z, .slice A2z a2.length c2z] (by kernel_rfl) (state_set_without_calls () A1z c1z a1 A2z c2z a2 (memOf _) _ (Inv.start _) (hI.rd hr1z) hl1z (hI.rd hr2z) hl2z _ hy49) ?_
            rintro _ _ ⟨A50, c51, rfl, hI'⟩
            replace hI := hI.call0 hI'
            clear hI'
            refine ⟨_, rfl, ?_⟩
            refine o_batch 5 [] [.p, .p, .p, .p] [(22, .slice A50 y48.1.length c51), (23, .bool y48.2), (6, .slice A50 y48.1.length c51), (7, .bool y48.2)] [] trivial trivial (by kernel_rfl) (by kernel_rfl) (by kernel_rfl) ?_
            refine r_out (by kernel_rfl) ?_
            replace H := Option.some.inj H
            subst H
            exact go_return (.tuple #[.slice A50 y48.1.length c51, .bool y48.2]) Try.func16 (by kernel_rfl) ⟨A50, c51, rfl, hI⟩
          · replace H := cond_some H
            rcases H with ⟨hc52, H⟩ | ⟨hc52, H⟩
            · refine o_is 18 (ifaceV y35) (.iface 86 (.agg #[])) (by kernel_rfl) (congrArg ifaceV (eq_of_beq hc52)) ?_
              refine o_batch 2 [] [.p, .p] [(19, .slice A1z a1.length c1z), (20, .slice A2z a2.length c2z)] [] trivial trivial (by kernel_rfl) (by kernel_rfl) (by kernel_rfl) ?_
              replace H := bind_some H
              obtain ⟨y53, hy54, H⟩ := H
              refine o_eff 4 _ rfl (by kernel_rfl) ?_
              refine e_enter 114 #[.agg #[], .slice A1z a1.length c1z, .slice A2z a2.length c2z] (by kernel_rfl) (state_counter_without_calls () A1z c1z a1 A2z c2z a2 (memOf _) _ (Inv.start _) (hI.rd hr1z) hl1z (hI.rd hr2z) hl2z _ hy54) ?_
              rintro _ _ ⟨A55, c56, rfl, hI'⟩
              replace hI := hI.call0 hI'
              clear hI'
              refine ⟨_, rfl, ?_⟩
              refine o_batch 5 [] [.p, .p, .p, .p] [(22, .slice A55 y53.1.length c56), (23, .bool y53.2), (6, .slice A55 y53.1.length c56), (7, .bool y53.2)] [] trivial trivial (by kernel_rfl) (by kernel_rfl) (by kernel_rfl) ?_
              refine r_out (by kernel_rfl) ?_
              replace H := Option.some.inj H
              subst H
              exact go_return (.tuple #[.slice A55 y53.1.length c56, .bool y53.2]) Try.func16 (by kernel_rfl) ⟨A55, c56, rfl, hI⟩
            · replace H := cond_some H
              rcases H with ⟨hc57, H⟩ | ⟨hc57, H⟩
              · refine o_is 18 (ifaceV y35) (.nilIface) (by kernel_rfl) (congrArg ifaceV (eq_of_beq hc57)) ?_
                refine o_batch 2 [] [.p, .p] [(19, .slice A1z a1.length c1z), (20, .slice A2z a2.length c2z)] [] trivial trivial (by kernel_rfl) (by kernel_rfl) (by kernel_rfl) ?_
                cases H
              · cases H
  · refine r_in ?_
    refine o_batch 0 [] [.p, .p] [(8, .int .i64 a0), (9, .slice A1z a1.length c1z)] [] trivial trivial (by kernel_rfl) (by kernel_rfl) (by kernel_rfl) ?_
    replace H := bind_some H
    obtain ⟨y58, hy59, H⟩ := H
    refine o_eff 2 _ rfl (by kernel_rfl) ?_
    refine e_callf _ _ _ 21 #[] #[] #[.int .i64 a0, .slice A1z a1.length c1z] #[.int .i64 a0, .slice A1z a1.length c1z] rfl (by kernel_rfl) (by kernel_rfl) (by kernel_rfl) (enter21 _) (state_Check_calls a0 A1z c1z a1 (memOf _) _ (Inv.start _) (hI.rd hr1z) hl1z _ hy59) ?_
    rintro _ _ ⟨rfl, hI'⟩
    replace hI := hI.call0 hI'
    clear hI'
    refine ⟨_, rfl, ?_⟩
    replace H := cond_some H
    rcases H with ⟨hc60, H⟩ | ⟨hc60, H⟩
    · refine o_batch 3 [] [.p, .c true, .p, .p, .p, .p] [(11, .bool (y58 != 0)), (12, .bool true), (13, undef), (14, undef), (15, undef), (16, .bool true)] [((bif (y58 != 0) == true then 0 else -1), 1)] trivial ⟨(bndEq hc60), trivial⟩ (by kernel_rfl) (by kernel_rfl) (by kernel_rfl) ?_
      refine r_out (by kernel_rfl) ?_
      exact hJ10 true _ _ ⟨_, at_slots _ (by kernel_rfl), hI⟩ H
    · refine o_batch 3 [] [.p, .c false, .p, .p, .p, .p] [(11, .bool (y58 != 0)), (12, .bool false), (13, .slice A2z a2.length c2z), (14, .int .i64 (a2.length : Int)), (15, .bool ((a2.length : Int) == 0)), (16, .bool ((a2.length : Int) == 0))] [((bif (y58 != 0) == false then 0 else -1), 1)] trivial ⟨(bndEq hc60), trivial⟩ (by kernel_rfl) (by kernel_rfl) (by kernel_rfl) ?_
      refine r_out (by kernel_rfl) ?_
      exact hJ10 ((a2.length : Int) == 0) _ _ ⟨_, at_slots _ (by kernel_rfl), hI⟩ H

/-! ### assizelaw08.alive -/
theorem enter13 (a : Array Value) : Sem.pureRun Try.prog (callFunc 13 a) = some (.enter 13 a) := by kernel_rfl
theorem assizelaw08zalive_calls  (M : Mem) (w : World) (hI : Inv M w []) (r : Bool) (H : assizelaw08zalive = some r) :
    Calls Try.prog 13 #[] w fun e w' => e = .returned (.bool r) ∧ Inv M w' [] := by
  refine calls_go (updL (fun _ => undef) []) Try.func13 rfl (by kernel_rfl) ?_
  intro cs
  unfold assizelaw08zalive at H
  refine go_seq ?_
  refine r_in ?_
  refine o_batch 0 [] [.p] [(0, .bool false)] [] trivial trivial (by kernel_rfl) (by kernel_rfl) (by kernel_rfl) ?_
  refine r_out (by kernel_rfl) ?_
  refine go_seq ?_
  refine r_in ?_
  refine o_eff 0 _ rfl (by kernel_rfl) ?_
  refine e_parts 22 2 2 _ _ _ #[.int .i64 1, .int .i64 5] [.int .i64 1, .int .i64 5] rfl rfl rfl rfl (by kernel_rfl) (by kernel_rfl) (by kernel_rfl) (by kernel_rfl) hI ?_
  clear hI
  intro b6 _ hI
  replace hI := hI.asrow (k := (tInt .i64)) (xs := ([1, 5] : List Int)) (cs := [.int .i64 1, .int .i64 5]) (R := []) (L' := []) 2 0 [] [] (by decide) rfl (mks_cons (mk_flat (k := (tInt .i64)) 1 [.int .i64 1] rfl) (mks_cons (mk_flat (k := (tInt .i64)) 5 [.int .i64 5] rfl) mks_nil)) rfl rfl (by kernel_rfl)
  replace H := bind_some H
  obtain ⟨y7, hy8, H⟩ := H
  refine o_is 6 (.slice (some ⟨b6, 0, none⟩) 2 2) (.slice (some ⟨b6, 0, none⟩) (([1, 5] : List Int).length) 2) (by kernel_rfl) (by first | rfl | simp only [List.length_set, List.length_replicate, List.length_nil]) ?_
  refine o_is 6 (.slice (some ⟨b6, 0, none⟩) 2 2) (.slice (some ⟨b6, 0, none⟩) (([1, 5] : List Int).length) 2) (by kernel_rfl) (by first | rfl | simp only [List.length_set, List.length_replicate, List.length_nil]) ?_
  replace hI := hI.renum 0 rfl
  refine o_eff 1 _ rfl (by kernel_rfl) ?_
  refine e_callf _ _ _ 15 #[] #[] #[.int .i64 3, .slice (some ⟨b6, 0, none⟩) (([1, 5] : List Int).length) 2, .int .i64 3] #[.int .i64 3, .slice (some ⟨b6, 0, none⟩) (([1, 5] : List Int).length) 2, .int .i64 3] rfl (by kernel_rfl) (by kernel_rfl) (by kernel_rfl) (enter15 _) (state_Apply_calls 3 (some ⟨b6, 0, none⟩) 2 ([1, 5] : List Int) 3 (memOf _) _ (Inv.start _) (hI.row 0 rfl) (hI.rowle 0 rfl) _ hy8) ?_
  rintro _ _ ⟨A9, c10, rfl, hI'⟩
  replace hI := hI.call0 hI'
  clear hI'
  refine ⟨_, rfl, ?_⟩
  refine o_batch 2 [] [.p, .p, .p, .p, .p] [(5, .tuple #[.slice A9 y7.1.length c10, .int .i64 y7.2]), (8, .slice A9 y7.1.length c10), (9, .int .i64 y7.2), (1, .slice A9 y7.1.length c10), (2, .int .i64 y7.2)] [] trivial trivial (by kernel_rfl) (by kernel_rfl) (by kernel_rfl) ?_
  refine r_out (by kernel_rfl) ?_
  refine go_seq ?_
  refine r_in ?_
  refine o_eff 0 _ rfl (by kernel_rfl) ?_
  refine e_parts 22 2 3 _ _ _ #[.int .i64 1, .int .i64 2, .int .i64 3] [.int .i64 1, .int .i64 2, .int .i64 3] rfl rfl rfl rfl (by kernel_rfl) (by kernel_rfl) (by kernel_rfl) (by kernel_rfl) hI ?_
  clear hI
  intro b17 _ hI
  replace hI := hI.asrow (k := (tInt .i64)) (xs := ([1, 2, 3] : List Int)) (cs := [.int .i64 1, .int .i64 2, .int .i64 3]) (R := []) (L' := [.row (tInt .i64) 2 (some ⟨b6, 0, none⟩) (([1, 5] : List Int).length) 2 ([1, 5] : List Int), .row (tInt .i64) 2 A9 y7.1.length c10 y7.1]) 3 2 [] [0, 1] (by decide) rfl (mks_cons (mk_flat (k := (tInt .i64)) 1 [.int .i64 1] rfl) (mks_cons (mk_flat (k := (tInt .i64)) 2 [.int .i64 2] rfl) (mks_cons (mk_flat (k := (tInt .i64)) 3 [.int .i64 3] rfl) mks_nil))) rfl rfl (by kernel_rfl)
  refine o_eff 1 _ rfl (by kernel_rfl) ?_
  refine e_parts 22 2 2 _ _ _ #[.int .i64 2, .int .i64 3] [.int .i64 2, .int .i64 3] rfl rfl rfl rfl (by kernel_rfl) (by kernel_rfl) (by kernel_rfl) (by kernel_rfl) hI ?_
  clear hI
  intro b18 _ hI
  replace hI := hI.asrow (k := (tInt .i64)) (xs := ([2, 3] : List Int)) (cs := [.int .i64 2, .int .i64 3]) (R := []) (L' := [.row (tInt .i64) 2 (some ⟨b17, 0, none⟩) 3 3 ([1, 2, 3] : List Int), .row (tInt .i64) 2 (some ⟨b6, 0, none⟩) (([1, 5] : List Int).length) 2 ([1, 5] : List Int), .row (tInt .i64) 2 A9 y7.1.length c10 y7.1]) 2 3 [] [0, 1, 2] (by decide) rfl (mks_cons (mk_flat (k := (tInt .i64)) 2 [.int .i64 2] rfl) (mks_cons (mk_flat (k := (tInt .i64)) 3 [.int .i64 3] rfl) mks_nil)) rfl rfl (by kernel_rfl)
  replace H := bind_some H
  obtain ⟨y19, hy20, H⟩ := H
  refine o_is 11 (.slice (some ⟨b17, 0, none⟩) 3 3) (.slice (some ⟨b17, 0, none⟩) (([1, 2, 3] : List Int).length) 3) (by kernel_rfl) (by first | rfl | simp only [List.length_set, List.length_replicate, List.length_nil]) ?_
  refine o_is 11 (.slice (some ⟨b17, 0, none⟩) 3 3) (.slice (some ⟨b17, 0, none⟩) (([1, 2, 3] : List Int).length) 3) (by kernel_rfl) (by first | rfl | simp only [List.length_set, List.length_replicate, List.length_nil]) ?_
  refine o_is 12 (.slice (some ⟨b18, 0, none⟩) 2 2) (.slice (some ⟨b18, 0, none⟩) (([2, 3] : List Int).length) 2) (by kernel_rfl) (by first | rfl | simp only [List.length_set, List.length_replicate, List.length_nil]) ?_
  refine o_is 12 (.slice (some ⟨b18, 0, none⟩) 2 2) (.slice (some ⟨b18, 0, none⟩) (([2, 3] : List Int).length) 2) (by kernel_rfl) (by first | rfl | simp only [List.length_set, List.length_replicate, List.length_nil]) ?_
  replace hI := hI.renum 0 rfl
  replace hI := hI.renum 1 rfl
  refine o_eff 2 _ rfl (by kernel_rfl) ?_
  refine e_callf _ _ _ 16 #[] #[] #[.int .i64 2, .slice (some ⟨b17, 0, none⟩) (([1, 2, 3] : List Int).length) 3, .slice (some ⟨b18, 0, none⟩) (([2, 3] : List Int).length) 2] #[.int .i64 2, .slice (some ⟨b17, 0, none⟩) (([1, 2, 3] : List Int).length) 3, .slice (some ⟨b18, 0, none⟩) (([2, 3] : List Int).length) 2] rfl (by kernel_rfl) (by kernel_rfl) (by kernel_rfl) (enter16 _) (state_Before_calls 2 (some ⟨b17, 0, none⟩) 3 ([1, 2, 3] : List Int) (some ⟨b18, 0, none⟩) 2 ([2, 3] : List Int) (memOf _) _ (Inv.start _) (hI.row 1 rfl) (hI.rowle 1 rfl) (hI.row 0 rfl) (hI.rowle 0 rfl) _ hy20) ?_
  rintro _ _ ⟨A21, c22, rfl, hI'⟩
  replace hI := hI.call0 hI'
  clear hI'
  refine ⟨_, rfl, ?_⟩
  refine o_batch 3 [] [.p, .p, .p, .p, .p] [(10, .tuple #[.slice A21 y19.1.length c22, .bool y19.2]), (14, .slice A21 y19.1.length c22), (15, .bool y19.2), (3, .slice A21 y19.1.length c22), (4, .bool y19.2)] [] trivial trivial (by kernel_rfl) (by kernel_rfl) (by kernel_rfl) ?_
  refine r_out (by kernel_rfl) ?_
  refine go_seq ?_
  refine r_in ?_
  replace H := cond_some H
  rcases H with ⟨hc35, H⟩ | ⟨hc35, H⟩
  · replace H := cond_some H
    rcases H with ⟨hc36, H⟩ | ⟨hc36, H⟩
    · replace H := must_some H
      obtain ⟨g37, H⟩ := H
      obtain ⟨b38, rfl⟩ := hI.rowAt 3 rfl g37
      replace H := cond_some H
      rcases H with ⟨hc39, H⟩ | ⟨hc39, H⟩
      · replace H := cond_some H
        rcases H with ⟨hc40, H⟩ | ⟨hc40, H⟩
        · replace H := cond_some H
          rcases H with ⟨hc41, H⟩ | ⟨hc41, H⟩
          · replace H := must_some H
            obtain ⟨g42, H⟩ := H
            obtain ⟨b43, rfl⟩ := hI.rowAt 4 rfl g42
            replace H := cond_some H
            rcases H with ⟨hc44, H⟩ | ⟨hc44, H⟩
            · refine o_batch 0 [(b38, 0 + (1 : Int).toNat * 1, [.int .i64 (idx y7.1 (1 : Int))]), (b43, 0 + (0 : Int).toNat * 1, [.int .i64 (idx y19.1 (0 : Int))])] [.p, .p, .c true, .p, .p, .p, .p, .c true, .p, .x, .l 0 0, .p, .p, .c true, .p, .p, .c true, .p, .p, .p, .p, .c true, .p, .x, .l 1 0, .p, .p, .c true] [(16, .int .i64 y7.2), (17, .bool (y7.2 == 0)), (18, .bool true), (19, .slice (some ⟨b38, 0, none⟩) y7.1.length c10), (20, .int .i64 (y7.1.length : Int)), (21, .bool ((y7.1.length : Int) == 3)), (22, .bool ((y7.1.length : Int) == 3)), (23, .bool true), (24, .slice (some ⟨b38, 0, none⟩) y7.1.length c10), (25, .pointer (some ⟨b38, 0 + (1 : Int).toNat * 1, none⟩)), (26, .int .i64 (idx y7.1 (1 : Int))), (27, .bool (idx y7.1 (1 : Int) == 3)), (28, .bool (idx y7.1 (1 : Int) == 3)), (29, .bool true), (30, .bool y19.2), (31, .bool y19.2), (32, .bool true), (33, .slice (some ⟨b43, 0, none⟩) y19.1.length c22), (34, .int .i64 (y19.1.length : Int)), (35, .bool ((y19.1.length : Int) == 1)), (36, .bool ((y19.1.length : Int) == 1)), (37, .bool true), (38, .slice (some ⟨b43, 0, none⟩) y19.1.length c22), (39, .pointer (some ⟨b43, 0 + (0 : Int).toNat * 1, none⟩)), (40, .int .i64 (idx y19.1 (0 : Int))), (41, .bool (idx y19.1 (0 : Int) == 1)), (42, .bool (idx y19.1 (0 : Int) == 1)), (43, .bool true)] [((bif (y7.2 == 0) == true then 0 else -1), 1), ((bif ((y7.1.length : Int) == 3) == true then 0 else -1), 1), (1, y7.1.length), ((bif (idx y7.1 (1 : Int) == 3) == true then 0 else -1), 1), ((bif y19.2 == true then 0 else -1), 1), ((bif ((y19.1.length : Int) == 1) == true then 0 else -1), 1), (0, y19.1.length), ((bif (idx y19.1 (0 : Int) == 1) == true then 0 else -1), 1)] ⟨(rdS.flook (hI.row 3 rfl) (hI.rowlen 3 rfl) g37).ok, (rdS.flook (hI.row 4 rfl) (hI.rowlen 4 rfl) g42).ok, trivial⟩ ⟨(bndEq hc35), (bndEq hc36), g37, (bndEq hc39), (bndEq hc40), (bndEq hc41), g42, (bndEq hc44), trivial⟩ (by kernel_rfl) (by kernel_rfl) (by kernel_rfl) ?_
              replace H := bind_some H
              obtain ⟨y45, hy46, H⟩ := H
              refine o_eff 28 _ rfl (by kernel_rfl) ?_
              refine e_callf _ _ _ 21 #[] #[] #[.int .i64 4, .slice none 0 0] #[.int .i64 4, .slice none 0 0] rfl (by kernel_rfl) (by kernel_rfl) (by kernel_rfl) (enter21 _) (state_Check_calls 4 none 0 ([] : List Int) (memOf _) _ (Inv.start _) (.inl rfl) (Nat.le_refl _) _ hy46) ?_
              rintro _ _ ⟨rfl, hI'⟩
              replace hI := hI.call0 hI'
              clear hI'
              refine ⟨_, rfl, ?_⟩
              refine o_batch 29 [] [.p, .p, .p] [(45, .bool (y45 == 80)), (46, .bool (y45 == 80)), (0, .bool (y45 == 80))] [] trivial trivial (by kernel_rfl) (by kernel_rfl) (by kernel_rfl) ?_
              refine r_out (by kernel_rfl) ?_
              replace H := Option.some.inj H
              subst H
              exact go_return (.bool (y45 == 80)) Try.func13 (by kernel_rfl) ⟨rfl, hI.pick [] (by decide) rfl⟩
            · refine o_batch 0 [(b38, 0 + (1 : Int).toNat * 1, [.int .i64 (idx y7.1 (1 : Int))]), (b43, 0 + (0 : Int).toNat * 1, [.int .i64 (idx y19.1 (0 : Int))])] [.p, .p, .c true, .p, .p, .p, .p, .c true, .p, .x, .l 0 0, .p, .p, .c true, .p, .p, .c true, .p, .p, .p, .p, .c true, .p, .x, .l 1 0, .p, .p, .c false, .p, .p, .p, .p] [(16, .int .i64 y7.2), (17, .bool (y7.2 == 0)), (18, .bool true), (19, .slice (some ⟨b38, 0, none⟩) y7.1.length c10), (20, .int .i64 (y7.1.length : Int)), (21, .bool ((y7.1.length : Int) == 3)), (22, .bool ((y7.1.length : Int) == 3)), (23, .bool true), (24, .slice (some ⟨b38, 0, none⟩) y7.1.length c10), (25, .pointer (some ⟨b38, 0 + (1 : Int).toNat * 1, none⟩)), (26, .int .i64 (idx y7.1 (1 : Int))), (27, .bool (idx y7.1 (1 : Int) == 3)), (28, .bool (idx y7.1 (1 : Int) == 3)), (29, .bool true), (30, .bool y19.2), (31, .bool y19.2), (32, .bool true), (33, .slice (some ⟨b43, 0, none⟩) y19.1.length c22), (34, .int .i64 (y19.1.length : Int)), (35, .bool ((y19.1.length : Int) == 1)), (36, .bool ((y19.1.length : Int) == 1)), (37, .bool true), (38, .slice (some ⟨b43, 0, none⟩) y19.1.length c22), (39, .pointer (some ⟨b43, 0 + (0 : Int).toNat * 1, none⟩)), (40, .int .i64 (idx y19.1 (0 : Int))), (41, .bool (idx y19.1 (0 : Int) == 1)), (42, .bool (idx y19.1 (0 : Int) == 1)), (43, .bool false), (44, undef), (45, undef), (46, .bool false), (0, .bool false)] [((bif (y7.2 == 0) == true then 0 else -1), 1), ((bif ((y7.1.length : Int) == 3) == true then 0 else -1), 1), (1, y7.1.length), ((bif (idx y7.1 (1 : Int) == 3) == true then 0 else -1), 1), ((bif y19.2 == true then 0 else -1), 1), ((bif ((y19.1.length : Int) == 1) == true then 0 else -1), 1), (0, y19.1.length), ((bif (idx y19.1 (0 : Int) == 1) == false then 0 else -1), 1)] ⟨(rdS.flook (hI.row 3 rfl) (hI.rowlen 3 rfl) g37).ok, (rdS.flook (hI.row 4 rfl) (hI.rowlen 4 rfl) g42).ok, trivial⟩ ⟨(bndEq hc35), (bndEq hc36), g37, (bndEq hc39), (bndEq hc40), (bndEq hc41), g42, (bndEq hc44), trivial⟩ (by kernel_rfl) (by kernel_rfl) (by kernel_rfl) ?_
              refine r_out (by kernel_rfl) ?_
              replace H := Option.some.inj H
              subst H
              exact go_return (.bool false) Try.func13 (by kernel_rfl) ⟨rfl, hI.pick [] (by decide) rfl⟩
          · refine o_batch 0 [(b38, 0 + (1 : Int).toNat * 1, [.int .i64 (idx y7.1 (1 : Int))])] [.p, .p, .c true, .p, .p, .p, .p, .c true, .p, .x, .l 0 0, .p, .p, .c true, .p, .p, .c true, .p, .p, .p, .p, .c false, .p, .p, .p, .p, .p, .p, .p, .p, .p, .p] [(16, .int .i64 y7.2), (17, .bool (y7.2 == 0)), (18, .bool true), (19, .slice (some ⟨b38, 0, none⟩) y7.1.length c10), (20, .int .i64 (y7.1.length : Int)), (21, .bool ((y7.1.length : Int) == 3)), (22, .bool ((y7.1.length : Int) == 3)), (23, .bool true), (24, .slice (some ⟨b38, 0, none⟩) y7.1.length c10), (25, .pointer (some ⟨b38, 0 + (1 : Int).toNat * 1, none⟩)), (26, .int .i64 (idx y7.1 (1 : Int))), (27, .bool (idx y7.1 (1 : Int) == 3)), (28, .bool (idx y7.1 (1 : Int) == 3)), (29, .bool true), (30, .bool y19.2), (31, .bool y19.2), (32, .bool true), (33, .slice A21 y19.1.length c22), (34, .int .i64 (y19.1.length : Int)), (35, .bool ((y19.1.length : Int) == 1)), (36, .bool ((y19.1.length : Int) == 1)), (37, .bool false), (38, undef), (39, undef), (40, undef), (41, undef), (42, .bool false), (43, .bool false), (44, undef), (45, undef), (46, .bool false), (0, .bool false)] [((bif (y7.2 == 0) == true then 0 else -1), 1), ((bif ((y7.1.length : Int) == 3) == true then 0 else -1), 1), (1, y7.1.length), ((bif (idx y7.1 (1 : Int) == 3) == true then 0 else -1), 1), ((bif y19.2 == true then 0 else -1), 1), ((bif ((y19.1.length : Int) == 1) == false then 0 else -1), 1)] ⟨(rdS.flook (hI.row 3 rfl) (hI.rowlen 3 rfl) g37).ok, trivial⟩ ⟨(bndEq hc35), (bndEq hc36), g37, (bndEq hc39), (bndEq hc40), (bndEq hc41), trivial⟩ (by kernel_rfl) (by kernel_rfl) (by kernel_rfl) ?_
            refine r_out (by kernel_rfl) ?_
            replace H := Option.some.inj H
            subst H
            exact go_return (.bool false) Try.func13 (by kernel_rfl) ⟨rfl, hI.pick [] (by decide) rfl⟩
        · refine o_batch 0 [(b38, 0 + (1 : Int).toNat * 1, [.int .i64 (idx y7.1 (1 : Int))])] [.p, .p, .c true, .p, .p, .p, .p, .c true, .p, .x, .l 0 0, .p, .p, .c true, .p, .p, .c false, .p, .p, .p, .p, .p, .p, .p, .p, .p, .p, .p, .p, .p, .p, .p] [(16, .int .i64 y7.2), (17, .bool (y7.2 == 0)), (18, .bool true), (19, .slice (some ⟨b38, 0, none⟩) y7.1.length c10), (20, .int .i64 (y7.1.length : Int)), (21, .bool ((y7.1.length : Int) == 3)), (22, .bool ((y7.1.length : Int) == 3)), (23, .bool true), (24, .slice (some ⟨b38, 0, none⟩) y7.1.length c10), (25, .pointer (some ⟨b38, 0 + (1 : Int).toNat * 1, none⟩)), (26, .int .i64 (idx y7.1 (1 : Int))), (27, .bool (idx y7.1 (1 : Int) == 3)), (28, .bool (idx y7.1 (1 : Int) == 3)), (29, .bool true), (30, .bool y19.2), (31, .bool y19.2), (32, .bool false), (33, undef), (34, undef), (35, undef), (36, .bool false), (37, .bool false), (38, undef), (39, undef), (40, undef), (41, undef), (42, .bool false), (43, .bool false), (44, undef), (45, undef), (46, .bool false), (0, .bool false)] [((bif (y7.2 == 0) == true then 0 else -1), 1), ((bif ((y7.1.length : Int) == 3) == true then 0 else -1), 1), (1, y7.1.length), ((bif (idx y7.1 (1 : Int) == 3) == true then 0 else -1), 1), ((bif y19.2 == false then 0 else -1), 1)] ⟨(rdS.flook (hI.row 3 rfl) (hI.rowlen 3 rfl) g37).ok, trivial⟩ ⟨(bndEq hc35), (bndEq hc36), g37, (bndEq hc39), (bndEq hc40), trivial⟩ (by kernel_rfl) (by kernel_rfl) (by kernel_rfl) ?_
          refine r_out (by kernel_rfl) ?_
          replace H := Option.some.inj H
          subst H
          exact go_return (.bool false) Try.func13 (by kernel_rfl) ⟨rfl, hI.pick [] (by decide) rfl⟩
      · refine o_batch 0 [(b38, 0 + (1 : Int).toNat * 1, [.int .i64 (idx y7.1 (1 : Int))])] [.p, .p, .c true, .p, .p, .p, .p, .c true, .p, .x, .l 0 0, .p, .p, .c false, .p, .p, .p, .p, .p, .p, .p, .p, .p, .p, .p, .p, .p, .p, .p, .p, .p, .p] [(16, .int .i64 y7.2), (17, .bool (y7.2 == 0)), (18, .bool true), (19, .slice (some ⟨b38, 0, none⟩) y7.1.length c10), (20, .int .i64 (y7.1.length : Int)), (21, .bool ((y7.1.length : Int) == 3)), (22, .bool ((y7.1.length : Int) == 3)), (23, .bool true), (24, .slice (some ⟨b38, 0, none⟩) y7.1.length c10), (25, .pointer (some ⟨b38, 0 + (1 : Int).toNat * 1, none⟩)), (26, .int .i64 (idx y7.1 (1 : Int))), (27, .bool (idx y7.1 (1 : Int) == 3)), (28, .bool (idx y7.1 (1 : Int) == 3)), (29, .bool false), (30, undef), (31, .bool false), (32, .bool false), (33, undef), (34, undef), (35, undef), (36, .bool false), (37, .bool false), (38, undef), (39, undef), (40, undef), (41, undef), (42, .bool false), (43, .bool false), (44, undef), (45, undef), (46, .bool false), (0, .bool false)] [((bif (y7.2 == 0) == true then 0 else -1), 1), ((bif ((y7.1.length : Int) == 3) == true then 0 else -1), 1), (1, y7.1.length), ((bif (idx y7.1 (1 : Int) == 3) == false then 0 else -1), 1)] ⟨(rdS.flook (hI.row 3 rfl) (hI.rowlen 3 rfl) g37).ok, trivial⟩ ⟨(bndEq hc35), (bndEq hc36), g37, (bndEq hc39), trivial⟩ (by kernel_rfl) (by kernel_rfl) (by kernel_rfl) ?_
        refine r_out (by kernel_rfl) ?_
        replace H := Option.some.inj H
        subst H
        exact go_return (.bool false) Try.func13 (by kernel_rfl) ⟨rfl, hI.pick [] (by decide) rfl⟩
    · refine o_batch 0 [] [.p, .p, .c true, .p, .p, .p, .p, .c false, .p, .p, .p, .p, .p, .p, .p, .p, .p, .p, .p, .p, .p, .p, .p, .p, .p, .p, .p, .p, .p, .p, .p, .p] [(16, .int .i64 y7.2), (17, .bool (y7.2 == 0)), (18, .bool true), (19, .slice A9 y7.1.length c10), (20, .int .i64 (y7.1.length : Int)), (21, .bool ((y7.1.length : Int) == 3)), (22, .bool ((y7.1.length : Int) == 3)), (23, .bool false), (24, undef), (25, undef), (26, undef), (27, undef), (28, .bool false), (29, .bool false), (30, undef), (31, .bool false), (32, .bool false), (33, undef), (34, undef), (35, undef), (36, .bool false), (37, .bool false), (38, undef), (39, undef), (40, undef), (41, undef), (42, .bool false), (43, .bool false), (44, undef), (45, undef), (46, .bool false), (0, .bool false)] [((bif (y7.2 == 0) == true then 0 else -1), 1), ((bif ((y7.1.length : Int) == 3) == false then 0 else -1), 1)] trivial ⟨(bndEq hc35), (bndEq hc36), trivial⟩ (by kernel_rfl) (by kernel_rfl) (by kernel_rfl) ?_
      refine r_out (by kernel_rfl) ?_
      replace H := Option.some.inj H
      subst H
      exact go_return (.bool false) Try.func13 (by kernel_rfl) ⟨rfl, hI.pick [] (by decide) rfl⟩
  · refine o_batch 0 [] [.p, .p, .c false, .p, .p, .p, .p, .p, .p, .p, .p, .p, .p, .p, .p, .p, .p, .p, .p, .p, .p, .p, .p, .p, .p, .p, .p, .p, .p, .p, .p, .p] [(16, .int .i64 y7.2), (17, .bool (y7.2 == 0)), (18, .bool false), (19, undef), (20, undef), (21, undef), (22, .bool false), (23, .bool false), (24, undef), (25, undef), (26, undef), (27, undef), (28, .bool false), (29, .bool false), (30, undef), (31, .bool false), (32, .bool false), (33, undef), (34, undef), (35, undef), (36, .bool false), (37, .bool false), (38, undef), (39, undef), (40, undef), (41, undef), (42, .bool false), (43, .bool false), (44, undef), (45, undef), (46, .bool false), (0, .bool false)] [((bif (y7.2 == 0) == false then 0 else -1), 1)] trivial ⟨(bndEq hc35), trivial⟩ (by kernel_rfl) (by kernel_rfl) (by kernel_rfl) ?_
    refine r_out (by kernel_rfl) ?_
    replace H := Option.some.inj H
    subst H
    exact go_return (.bool false) Try.func13 (by kernel_rfl) ⟨rfl, hI.pick [] (by decide) rfl⟩

/-! ### assizelaw08.copied -/
theorem enter14 (a : Array Value) : Sem.pureRun Try.prog (callFunc 14 a) = some (.enter 14 a) := by kernel_rfl
theorem assizelaw08zcopied_calls (A0z : Option Addr) (c0z : Nat) (a0 : List Int) (M : Mem) (w : World) (hI : Inv M w []) (hr0z : rdS (tInt .i64) M.blk A0z a0) (hl0z : a0.length ≤ c0z) (r : List Int) (H : assizelaw08zcopied a0 = some r) :
    Calls Try.prog 14 #[.slice A0z a0.length c0z] w fun e w' => ∃ (A10 : Option Addr) (c11 : Nat), e = .returned (.slice A10 r.length c11) ∧ Inv M w' [.row (tInt .i64) 2 A10 r.length c11 r] := by
  refine calls_go (updL (fun _ => undef) [(0, .slice A0z a0.length c0z)]) Try.func14 rfl (by kernel_rfl) ?_
  intro cs
  unfold assizelaw08zcopied at H
  refine go_seq ?_
  refine r_in ?_
  refine o_batch 0 [] [.p] [(2, .slice none 0 0)] [] trivial trivial (by kernel_rfl) (by kernel_rfl) (by kernel_rfl) ?_
  refine r_out (by kernel_rfl) ?_
  refine go_seq ?_
  refine r_in ?_
  refine o_eff 0 _ rfl (by kernel_rfl) ?_
  refine e_empty (α := Int) (tInt .i64) 22 2 _ rfl rfl rfl hI ?_
  clear hI
  intro b5 _ hI
  refine o_batch 1 [] [.p] [(4, .slice A0z a0.length c0z)] [] trivial trivial (by kernel_rfl) (by kernel_rfl) (by kernel_rfl) ?_
  replace H := must_some H
  obtain ⟨g6, H⟩ := H
  refine o_eff 2 _ rfl (by kernel_rfl) ?_
  refine e_append_rd (kt := (tInt .i64)) 22 0 2 _ _ _ _ (some ⟨b5, 0, none⟩) A0z 0 0 ([] : List Int) a0 c0z 0 [] [] rfl (by kernel_rfl) (by kernel_rfl) rfl rfl rfl rfl rfl (by kernel_rfl) hI (by decide) rfl (hI.rd hr0z) g6 ?_
  clear hI
  intro A7 c8 _ hI
  refine o_batch 3 [] [.p] [(2, .slice A7 ((([] : List Int) ++ a0).length) c8)] [] trivial trivial (by kernel_rfl) (by kernel_rfl) (by kernel_rfl) ?_
  refine r_out (by kernel_rfl) ?_
  replace H := Option.some.inj H
  subst H
  exact go_return (.slice A7 ((([] : List Int) ++ a0).length) c8) Try.func14 (by kernel_rfl) ⟨A7, c8, rfl, hI⟩

/-! ### assizeref08.Check -/
theorem enter22 (a : Array Value) : Sem.pureRun Try.prog (callFunc 22 a) = some (.enter 22 a) := by kernel_rfl
theorem assizeref08zCheck_calls (a0 : Int) (A1z : Option Addr) (c1z : Nat) (a1 : List Int) (M : Mem) (w : World) (hI : Inv M w []) (hr1z : rdS (tInt .i64) M.blk A1z a1) (hl1z : a1.length ≤ c1z) (r : Int) (H : assizeref08zCheck a0 a1 = some r) :
    Calls Try.prog 22 #[.int .i64 a0, .slice A1z a1.length c1z] w fun e w' => e = .returned (.int .i64 r) ∧ Inv M w' [] := by
  refine calls_go (updL (fun _ => undef) [(0, .int .i64 a0), (1, .slice A1z a1.length c1z)]) Try.func22 rfl (by kernel_rfl) ?_
  intro cs
  unfold assizeref08zCheck at H
  refine go_seq ?_
  refine r_in ?_
  refine o_batch 0 [] [.p] [(4, .int .i64 0)] [] trivial trivial (by kernel_rfl) (by kernel_rfl) (by kernel_rfl) ?_
  refine r_out (by kernel_rfl) ?_
  refine go_seq ?_
  refine go_seq_join (o := r) (fun b5 f w => ∃ (j : Nat → Value), f = updL j [(0, .int .i64 a0), (1, .slice A1z a1.length c1z), (12, .bool b5)] ∧ Inv M w []) (fun b5 => assizeref08zCheck.j1 a0 a1 b5) ?_ (fun hJ6 => ?_)
  · clear H hI
    rintro b5 _ _ ⟨_, rfl, hI⟩ H
    replace H := cond_some H
    rcases H with ⟨hc7, H⟩ | ⟨hc7, H⟩
    · refine go_then' (t := b5) (by kernel_rfl) hc7 ?_
      refine go_seq ?_
      refine r_in ?_
      refine o_batch 0 [] [.p] [(4, .int .i64 1)] [] trivial trivial (by kernel_rfl) (by kernel_rfl) (by kernel_rfl) ?_
      refine r_out (by kernel_rfl) ?_
      replace H := Option.some.inj H
      subst H
      exact go_return (.int .i64 1) Try.func22 (by kernel_rfl) ⟨rfl, hI⟩
    · refine go_else' (t := b5) (by kernel_rfl) hc7 ?_
      refine go_skip ?_
      refine go_seq ?_
      refine r_in ?_
      refine o_batch 0 [] [.p, .p, .p, .p] [(13, .slice A1z a1.length c1z), (14, .int .i64 (a1.length : Int)), (15, .bool (decide ((a1.length : Int) ≤ 64))), (5, .bool (decide ((a1.length : Int) ≤ 64)))] [] trivial trivial (by kernel_rfl) (by kernel_rfl) (by kernel_rfl) ?_
      refine r_out (by kernel_rfl) ?_
      refine go_seq ?_
      refine go_seq ?_
      refine r_in ?_
      refine o_batch 0 [] [.p] [(16, .int .i64 a0)] [] trivial trivial (by kernel_rfl) (by kernel_rfl) (by kernel_rfl) ?_
      refine r_out (by kernel_rfl) ?_
      refine go_block_join (o := r) (fun b81 f w => ∃ (j : Nat → Value), f = updL j [(5, .bool b81)] ∧ Inv M w []) (fun b81 => assizeref08zCheck.j2 b81) ?_ (fun hJ82 => ?_)
      · clear H hI
        rintro b81 _ _ ⟨_, rfl, hI⟩ H
        refine go_seq ?_
        refine go_seq ?_
        refine r_in ?_
        refine o_batch 0 [] [.p, .p] [(48, .bool b81), (49, .bool (!b81))] [] trivial trivial (by kernel_rfl) (by kernel_rfl) (by kernel_rfl) ?_
        refine r_out (by kernel_rfl) ?_
        replace H := cond_some H
        rcases H with ⟨hc84, H⟩ | ⟨hc84, H⟩
        · refine go_then' (t := !b81) (by kernel_rfl) hc84 ?_
          refine go_seq ?_
          refine r_in ?_
          refine o_batch 0 [] [.p] [(4, .int .i64 80)] [] trivial trivial (by kernel_rfl) (by kernel_rfl) (by kernel_rfl) ?_
          refine r_out (by kernel_rfl) ?_
          replace H := Option.some.inj H
          subst H
          exact go_return (.int .i64 80) Try.func22 (by kernel_rfl) ⟨rfl, hI⟩
        · refine go_else' (t := !b81) (by kernel_rfl) hc84 ?_
          refine go_skip ?_
          refine go_seq ?_
          refine r_in ?_
          refine o_batch 0 [] [.p] [(4, .int .i64 0)] [] trivial trivial (by kernel_rfl) (by kernel_rfl) (by kernel_rfl) ?_
          refine r_out (by kernel_rfl) ?_
          replace H := Option.some.inj H
          subst H
          exact go_return (.int .i64 0) Try.func22 (by kernel_rfl) ⟨rfl, hI⟩
      · refine go_seq ?_
        refine r_in ?_
        refine o_batch 0 [] [.p, .p] [(18, .bool (a0 == 1)), (17, .bool (a0 == 1))] [] trivial trivial (by kernel_rfl) (by kernel_rfl) (by kernel_rfl) ?_
        refine r_out (by kernel_rfl) ?_
        replace H := cond_some H
        rcases H with ⟨hc85, H⟩ | ⟨hc85, H⟩
        · refine go_then' (t := (a0 == 1)) (by kernel_rfl) hc85 ?_
          refine r_in ?_
          refine o_batch 0 [] [.p, .p, .p, .p] [(19, .slice A1z a1.length c1z), (20, .int .i64 (a1.length : Int)), (21, .bool (decide ((a1.length : Int) ≤ 1))), (5, .bool (decide ((a1.length : Int) ≤ 1)))] [] trivial trivial (by kernel_rfl) (by kernel_rfl) (by kernel_rfl) ?_
          refine r_out (by kernel_rfl) ?_
          refine go_inBlock ?_
          exact hJ82 (decide ((a1.length : Int) ≤ 1)) _ _ ⟨_, at_slots _ (by kernel_rfl), hI⟩ H
        · refine go_else' (t := (a0 == 1)) (by kernel_rfl) hc85 ?_
          refine go_seq ?_
          refine r_in ?_
          refine o_batch 0 [] [.p, .p] [(23, .bool (a0 == 4)), (22, .bool (a0 == 4))] [] trivial trivial (by kernel_rfl) (by kernel_rfl) (by kernel_rfl) ?_
          refine r_out (by kernel_rfl) ?_
          replace H := cond_some H
          rcases H with ⟨hc86, H⟩ | ⟨hc86, H⟩
          · refine go_then' (t := (a0 == 4)) (by kernel_rfl) hc86 ?_
            refine r_in ?_
            refine o_batch 0 [] [.p, .p, .p, .p] [(24, .slice A1z a1.length c1z), (25, .int .i64 (a1.length : Int)), (26, .bool ((a1.length : Int) == 1)), (5, .bool ((a1.length : Int) == 1))] [] trivial trivial (by kernel_rfl) (by kernel_rfl) (by kernel_rfl) ?_
            refine r_out (by kernel_rfl) ?_
            refine go_inBlock ?_
            exact hJ82 ((a1.length : Int) == 1) _ _ ⟨_, at_slots _ (by kernel_rfl), hI⟩ H
          · refine go_else' (t := (a0 == 4)) (by kernel_rfl) hc86 ?_
            refine go_seq ?_
            refine r_in ?_
            refine o_batch 0 [] [.p, .p] [(28, .bool (a0 == 3)), (27, .bool (a0 == 3))] [] trivial trivial (by kernel_rfl) (by kernel_rfl) (by kernel_rfl) ?_
            refine r_out (by kernel_rfl) ?_
            replace H := cond_some H
            rcases H with ⟨hc87, H⟩ | ⟨hc87, H⟩
            · refine go_then' (t := (a0 == 3)) (by kernel_rfl) hc87 ?_
              refine go_seq ?_
              refine r_in ?_
              refine o_batch 0 [] [.p] [(6, .int .i64 1)] [] trivial trivial (by kernel_rfl) (by kernel_rfl) (by kernel_rfl) ?_
              refine r_out (by kernel_rfl) ?_
              refine go_block ?_
              refine go_iter (assizeref08zCheck.s3 a1) (fun (b145, x146) f w => ∃ (j : Nat → Value), f = updL j [(1, .slice A1z a1.length c1z), (5, .bool b145), (6, .int .i64 x146)] ∧ Inv M w []) H ⟨_, at_slots _ (by kernel_rfl), hI⟩ ?_
              clear H hI
              rintro ⟨b145, x146⟩ _ _ o1 H ⟨_, rfl, hI⟩ hin1 hout1
              refine go_seq ?_
              refine go_seq ?_
              refine r_in ?_
              refine o_batch 0 [] [.p, .p, .p, .p] [(29, .int .i64 x146), (30, .slice A1z a1.length c1z), (31, .int .i64 (a1.length : Int)), (32, .bool (decide (x146 < (a1.length : Int))))] [] trivial trivial (by kernel_rfl) (by kernel_rfl) (by kernel_rfl) ?_
              refine r_out (by kernel_rfl) ?_
              replace H := cond_some H
              rcases H with ⟨hc148, H⟩ | ⟨hc148, H⟩
              · refine go_then' (t := decide (x146 < (a1.length : Int))) (by kernel_rfl) hc148 ?_
                refine go_skip ?_
                refine go_seq ?_
                refine go_block_join (o := o1) (fun b160 f w => ∃ (j : Nat → Value), f = updL j [(1, .slice A1z a1.length c1z), (5, .bool b160), (6, .int .i64 x146)] ∧ Inv M w []) (fun b160 => assizeref08zCheck.j4 x146 b160) ?_ (fun hJ161 => ?_)
                · clear H hI
                  rintro b160 _ _ ⟨_, rfl, hI⟩ H
                  refine r_in ?_
                  refine o_batch 0 [] [.p, .p, .p] [(33, .int .i64 x146), (34, .int .i64 (w64 (x146 + 1))), (6, .int .i64 (w64 (x146 + 1)))] [] trivial trivial (by kernel_rfl) (by kernel_rfl) (by kernel_rfl) ?_
                  refine r_out (by kernel_rfl) ?_
                  exact hin1 _ (Option.some.inj H).symm _ _ ⟨_, at_slots _ (by kernel_rfl), hI⟩
                · replace H := cond_some H
                  rcases H with ⟨hc162, H⟩ | ⟨hc162, H⟩
                  · replace H := must_some H
                    obtain ⟨g163, H⟩ := H
                    obtain ⟨b164, q165, rfl, _⟩ := rdS.fopen hr1z rfl g163
                    replace H := must_some H
                    obtain ⟨g166, H⟩ := H
                    refine d_still [(b164, q165 + (w64 (x146 - 1)).toNat * 1, [.int .i64 (idx a1 (w64 (x146 - 1)))]), (b164, q165 + x146.toNat * 1, [.int .i64 (idx a1 x146)])] [.p, .c true, .p, .p, .p, .x, .l 0 0, .p, .p, .x, .l 1 0, .p, .p, .p] [(35, .bool b145), (36, .bool true), (37, .slice (some ⟨b164, q165, none⟩) a1.length c1z), (38, .int .i64 x146), (39, .int .i64 (w64 (x146 - 1))), (40, .pointer (some ⟨b164, q165 + (w64 (x146 - 1)).toNat * 1, none⟩)), (41, .int .i64 (idx a1 (w64 (x146 - 1)))), (42, .slice (some ⟨b164, q165, none⟩) a1.length c1z), (43, .int .i64 x146), (44, .pointer (some ⟨b164, q165 + x146.toNat * 1, none⟩)), (45, .int .i64 (idx a1 x146)), (46, .bool (decide (idx a1 (w64 (x146 - 1)) < idx a1 x146))), (47, .bool (decide (idx a1 (w64 (x146 - 1)) < idx a1 x146))), (5, .bool (decide (idx a1 (w64 (x146 - 1)) < idx a1 x146)))] [((bif b145 == true then 0 else -1), 1), (w64 (x146 - 1), a1.length), (x146, a1.length)] (by kernel_rfl) (by kernel_rfl) rfl ⟨(hI.lies (rdS.flook hr1z rfl g163)), (hI.lies (rdS.flook hr1z rfl g166)), trivial⟩ ⟨(bndEq hc162), g163, g166, trivial⟩ (by kernel_rfl) (by kernel_rfl) (by kernel_rfl) hI ?_
                    clear hI
                    intro _ hI
                    refine go_inBlock ?_
                    exact hJ161 (decide (idx a1 (w64 (x146 - 1)) < idx a1 x146)) _ _ ⟨_, at_slots _ (by kernel_rfl), hI⟩ H
                  · refine d_still [] [.p, .c false, .p, .p, .p, .p, .p, .p, .p, .p, .p, .p, .p, .p] [(35, .bool b145), (36, .bool false), (37, undef), (38, undef), (39, undef), (40, undef), (41, undef), (42, undef), (43, undef), (44, undef), (45, undef), (46, undef), (47, .bool false), (5, .bool false)] [((bif b145 == false then 0 else -1), 1)] (by kernel_rfl) (by kernel_rfl) rfl trivial ⟨(bndEq hc162), trivial⟩ (by kernel_rfl) (by kernel_rfl) (by kernel_rfl) hI ?_
                    clear hI
                    intro _ hI
                    refine go_inBlock ?_
                    exact hJ161 false _ _ ⟨_, at_slots _ (by kernel_rfl), hI⟩ H
              · refine go_else' (t := decide (x146 < (a1.length : Int))) (by kernel_rfl) hc148 ?_
                refine go_exit rfl ?_
                refine go_inBlock ?_
                replace H := out_some H
                obtain ⟨_, H, he1⟩ := H
                have he := (hout1 _ he1).symm
                subst he
                exact hJ82 b145 _ _ ⟨_, at_slots _ (by kernel_rfl), hI⟩ H
            · refine go_else' (t := (a0 == 3)) (by kernel_rfl) hc87 ?_
              refine go_skip ?_
              refine go_inBlock ?_
              exact hJ82 (decide ((a1.length : Int) ≤ 64)) _ _ ⟨_, at_slots _ (by kernel_rfl), hI⟩ H
  · refine r_in ?_
    replace H := cond_some H
    rcases H with ⟨hc167, H⟩ | ⟨hc167, H⟩
    · refine o_batch 0 [] [.p, .p, .c true, .p, .p, .p] [(7, .int .i64 a0), (8, .bool (decide (a0 < 1))), (9, .bool true), (10, undef), (11, undef), (12, .bool true)] [((bif (decide (a0 < 1)) == true then 0 else -1), 1)] trivial ⟨(bndEq hc167), trivial⟩ (by kernel_rfl) (by kernel_rfl) (by kernel_rfl) ?_
      refine r_out (by kernel_rfl) ?_
      exact hJ6 true _ _ ⟨_, at_slots _ (by kernel_rfl), hI⟩ H
    · refine o_batch 0 [] [.p, .p, .c false, .p, .p, .p] [(7, .int .i64 a0), (8, .bool (decide (a0 < 1))), (9, .bool false), (10, .int .i64 a0), (11, .bool (decide (a0 > 4))), (12, .bool (decide (a0 > 4)))] [((bif (decide (a0 < 1)) == false then 0 else -1), 1)] trivial ⟨(bndEq hc167), trivial⟩ (by kernel_rfl) (by kernel_rfl) (by kernel_rfl) ?_
      refine r_out (by kernel_rfl) ?_
      exact hJ6 (decide (a0 > 4)) _ _ ⟨_, at_slots _ (by kernel_rfl), hI⟩ H

/-! ### assizeref08.include -/
theorem enter39 (a : Array Value) : Sem.pureRun Try.prog (callFunc 39 a) = some (.enter 39 a) := by kernel_rfl
theorem assizeref08zinclude_calls (A0z : Option Addr) (c0z : Nat) (a0 : List Int) (a1 : Int) (M : Mem) (w : World) (hI : Inv M w []) (hr0z : rdS (tInt .i64) M.blk A0z a0) (hl0z : a0.length ≤ c0z) (r : List Int) (H : assizeref08zinclude a0 a1 = some r) :
    Calls Try.prog 39 #[.slice A0z a0.length c0z, .int .i64 a1] w fun e w' => ∃ (A399 : Option Addr) (c400 : Nat), e = .returned (.slice A399 r.length c400) ∧ Inv M w' [.row (tInt .i64) 2 A399 r.length c400 r] := by
  refine calls_go (updL (fun _ => undef) [(0, .slice A0z a0.length c0z), (1, .int .i64 a1)]) Try.func39 rfl (by kernel_rfl) ?_
  intro cs
  unfold assizeref08zinclude at H
  refine go_seq ?_
  refine r_in ?_
  refine o_batch 0 [] [.p] [(4, .slice none 0 0)] [] trivial trivial (by kernel_rfl) (by kernel_rfl) (by kernel_rfl) ?_
  refine r_out (by kernel_rfl) ?_
  refine go_seq ?_
  refine r_in ?_
  refine o_batch 0 [] [.p] [(5, .slice none 0 0)] [] trivial trivial (by kernel_rfl) (by kernel_rfl) (by kernel_rfl) ?_
  refine r_out (by kernel_rfl) ?_
  refine go_seq ?_
  refine r_in ?_
  refine o_batch 0 [] [.p] [(6, .bool false)] [] trivial trivial (by kernel_rfl) (by kernel_rfl) (by kernel_rfl) ?_
  refine r_out (by kernel_rfl) ?_
  refine go_seq ?_
  refine go_seq ?_
  refine r_in ?_
  refine o_batch 0 [] [.p] [(7, .int .i64 0)] [] trivial trivial (by kernel_rfl) (by kernel_rfl) (by kernel_rfl) ?_
  refine r_out (by kernel_rfl) ?_
  refine go_block ?_
  refine go_iter (assizeref08zinclude.s1 a0 a1) (fun (l279, b282, x283) f w => ∃ (j : Nat → Value) (A280 : Option Addr) (c281 : Nat), f = updL j [(0, .slice A0z a0.length c0z), (1, .int .i64 a1), (5, .slice A280 l279.length c281), (6, .bool b282), (7, .int .i64 x283)] ∧ Inv M w [.row (tInt .i64) 2 A280 l279.length c281 l279]) H ⟨_, none, 0, at_slots _ (by kernel_rfl), (hI.nilrow (tInt .i64) 2)⟩ ?_
  clear H hI
  rintro ⟨l279, b282, x283⟩ _ _ o1 H ⟨_, A280, c281, rfl, hI⟩ hin1 hout1
  refine go_seq ?_
  refine go_seq ?_
  refine r_in ?_
  refine o_batch 0 [] [.p, .p, .p, .p] [(8, .int .i64 x283), (9, .slice A0z a0.length c0z), (10, .int .i64 (a0.length : Int)), (11, .bool (decide (x283 < (a0.length : Int))))] [] trivial trivial (by kernel_rfl) (by kernel_rfl) (by kernel_rfl) ?_
  refine r_out (by kernel_rfl) ?_
  replace H := cond_some H
  rcases H with ⟨hc285, H⟩ | ⟨hc285, H⟩
  · refine go_then' (t := decide (x283 < (a0.length : Int))) (by kernel_rfl) hc285 ?_
    refine go_skip ?_
    refine go_seq ?_
    refine go_block ?_
    refine go_seq_join (o := o1) (fun (l350, b353) f w => ∃ (j : Nat → Value) (A351 : Option Addr) (c352 : Nat), f = updL j [(0, .slice A0z a0.length c0z), (1, .int .i64 a1), (5, .slice A351 l350.length c352), (6, .bool b353), (7, .int .i64 x283)] ∧ Inv M w [.row (tInt .i64) 2 A351 l350.length c352 l350]) (fun (l350, b353) => assizeref08zinclude.j2 a0 x283 l350 b353) ?_ (fun hJ354 => ?_)
    · clear H hI
      rintro ⟨l350, b353⟩ _ _ ⟨_, A351, c352, rfl, hI⟩ H
      refine r_in ?_
      replace H := must_some H
      obtain ⟨g355, H⟩ := H
      obtain ⟨b356, q357, rfl, _⟩ := rdS.fopen hr0z rfl g355
      refine o_batch 0 [(b356, q357 + x283.toNat * 1, [.int .i64 (idx a0 x283)])] [.p, .p, .p, .x, .l 0 0] [(34, .slice A351 l350.length c352), (35, .slice (some ⟨b356, q357, none⟩) a0.length c0z), (36, .int .i64 x283), (37, .pointer (some ⟨b356, q357 + x283.toNat * 1, none⟩)), (38, .int .i64 (idx a0 x283))] [(x283, a0.length)] ⟨(hI.lies (rdS.flook hr0z rfl g355)), trivial⟩ ⟨g355, trivial⟩ (by kernel_rfl) (by kernel_rfl) (by kernel_rfl) ?_
      refine o_eff 5 _ rfl (by kernel_rfl) ?_
      refine e_parts 22 2 1 _ _ _ #[.int .i64 (idx a0 x283)] [.int .i64 (idx a0 x283)] rfl rfl rfl rfl (by kernel_rfl) (by kernel_rfl) (by kernel_rfl) (by kernel_rfl) hI ?_
      clear hI
      intro b358 _ hI
      replace H := must_some H
      obtain ⟨g359, H⟩ := H
      refine o_eff 6 _ rfl (by kernel_rfl) ?_
      refine e_append (tInt .i64) 22 0 2 _ _ _ _ A351 l350.length c352 l350 ([idx a0 x283] : List Int) b358 0 1 1 [.int .i64 (idx a0 x283)] 0 [] [1] [] [.blk b358 2 [.int .i64 (idx a0 x283)]] rfl (by kernel_rfl) (by kernel_rfl) rfl rfl rfl rfl rfl (by kernel_rfl) hI (by decide) rfl rfl rfl (hI.grp 1 rfl) g359 (mks_cons (mk_flat (k := (tInt .i64)) (idx a0 x283) [.int .i64 (idx a0 x283)] rfl) mks_nil) ?_
      clear hI
      intro A360 c361 _ hI
      replace hI := hI.pick (L' := [.row (tInt .i64) 2 A360 ((l350 ++ ([idx a0 x283] : List Int)).length) c361 (l350 ++ ([idx a0 x283] : List Int))]) [0] (by decide) rfl
      refine o_batch 7 [] [.p] [(5, .slice A360 ((l350 ++ ([idx a0 x283] : List Int)).length) c361)] [] trivial trivial (by kernel_rfl) (by kernel_rfl) (by kernel_rfl) ?_
      refine r_out (by kernel_rfl) ?_
      refine go_inBlock ?_
      refine r_in ?_
      refine o_batch 0 [] [.p, .p, .p] [(12, .int .i64 x283), (13, .int .i64 (w64 (x283 + 1))), (7, .int .i64 (w64 (x283 + 1)))] [] trivial trivial (by kernel_rfl) (by kernel_rfl) (by kernel_rfl) ?_
      refine r_out (by kernel_rfl) ?_
      exact hin1 _ (Option.some.inj H).symm _ _ ⟨_, A360, c361, at_slots _ (by kernel_rfl), hI⟩
    · refine go_seq_join (o := o1) (fun b366 f w => ∃ (j : Nat → Value), f = updL j [(0, .slice A0z a0.length c0z), (1, .int .i64 a1), (5, .slice A280 l279.length c281), (6, .bool b282), (7, .int .i64 x283), (23, .bool b366)] ∧ Inv M w [.row (tInt .i64) 2 A280 l279.length c281 l279]) (fun b366 => assizeref08zinclude.j3 a0 a1 l279 b282 x283 b366) ?_ (fun hJ367 => ?_)
      · clear H hI
        rintro b366 _ _ ⟨_, rfl, hI⟩ H
        replace H := cond_some H
        rcases H with ⟨hc368, H⟩ | ⟨hc368, H⟩
        · refine go_then' (t := b366) (by kernel_rfl) hc368 ?_
          refine go_seq ?_
          refine r_in ?_
          refine o_batch 0 [] [.p] [(6, .bool true)] [] trivial trivial (by kernel_rfl) (by kernel_rfl) (by kernel_rfl) ?_
          refine r_out (by kernel_rfl) ?_
          refine go_seq ?_
          refine r_in ?_
          replace H := must_some H
          obtain ⟨g372, H⟩ := H
          obtain ⟨b373, q374, rfl, _⟩ := rdS.fopen hr0z rfl g372
          refine o_batch 0 [(b373, q374 + x283.toNat * 1, [.int .i64 (idx a0 x283)])] [.p, .p, .x, .l 0 0, .p, .p] [(24, .slice (some ⟨b373, q374, none⟩) a0.length c0z), (25, .int .i64 x283), (26, .pointer (some ⟨b373, q374 + x283.toNat * 1, none⟩)), (27, .int .i64 (idx a0 x283)), (28, .int .i64 a1), (29, .bool (decide (idx a0 x283 > a1)))] [(x283, a0.length)] ⟨(hI.lies (rdS.flook hr0z rfl g372)), trivial⟩ ⟨g372, trivial⟩ (by kernel_rfl) (by kernel_rfl) (by kernel_rfl) ?_
          refine r_out (by kernel_rfl) ?_
          replace H := cond_some H
          rcases H with ⟨hc375, H⟩ | ⟨hc375, H⟩
          · refine go_then' (t := decide (idx a0 x283 > a1)) (by kernel_rfl) hc375 ?_
            refine r_in ?_
            refine o_batch 0 [] [.p, .p] [(30, .slice A280 l279.length c281), (31, .int .i64 a1)] [] trivial trivial (by kernel_rfl) (by kernel_rfl) (by kernel_rfl) ?_
            refine o_eff 2 _ rfl (by kernel_rfl) ?_
            refine e_parts 22 2 1 _ _ _ #[.int .i64 a1] [.int .i64 a1] rfl rfl rfl rfl (by kernel_rfl) (by kernel_rfl) (by kernel_rfl) (by kernel_rfl) hI ?_
            clear hI
            intro b376 _ hI
            replace H := must_some H
            obtain ⟨g377, H⟩ := H
            refine o_eff 3 _ rfl (by kernel_rfl) ?_
            refine e_append (tInt .i64) 22 0 2 _ _ _ _ A280 l279.length c281 l279 ([a1] : List Int) b376 0 1 1 [.int .i64 a1] 0 [] [1] [] [.blk b376 2 [.int .i64 a1]] rfl (by kernel_rfl) (by kernel_rfl) rfl rfl rfl rfl rfl (by kernel_rfl) hI (by decide) rfl rfl rfl (hI.grp 1 rfl) g377 (mks_cons (mk_flat (k := (tInt .i64)) a1 [.int .i64 a1] rfl) mks_nil) ?_
            clear hI
            intro A378 c379 _ hI
            replace hI := hI.pick (L' := [.row (tInt .i64) 2 A378 ((l279 ++ ([a1] : List Int)).length) c379 (l279 ++ ([a1] : List Int))]) [0] (by decide) rfl
            refine o_batch 4 [] [.p] [(5, .slice A378 ((l279 ++ ([a1] : List Int)).length) c379)] [] trivial trivial (by kernel_rfl) (by kernel_rfl) (by kernel_rfl) ?_
            refine r_out (by kernel_rfl) ?_
            exact hJ354 (l279 ++ ([a1] : List Int), true) _ _ ⟨_, A378, c379, at_slots _ (by kernel_rfl), hI⟩ H
          · refine go_else' (t := decide (idx a0 x283 > a1)) (by kernel_rfl) hc375 ?_
            refine go_skip ?_
            exact hJ354 (l279, true) _ _ ⟨_, A280, c281, at_slots _ (by kernel_rfl), hI⟩ H
        · refine go_else' (t := b366) (by kernel_rfl) hc368 ?_
          refine go_skip ?_
          exact hJ354 (l279, b282) _ _ ⟨_, A280, c281, at_slots _ (by kernel_rfl), hI⟩ H
      · refine r_in ?_
        replace H := cond_some H
        rcases H with ⟨hc380, H⟩ | ⟨hc380, H⟩
        · replace H := must_some H
          obtain ⟨g381, H⟩ := H
          obtain ⟨b382, q383, rfl, _⟩ := rdS.fopen hr0z rfl g381
          refine o_batch 0 [(b382, q383 + x283.toNat * 1, [.int .i64 (idx a0 x283)])] [.p, .p, .c true, .p, .p, .x, .l 0 0, .p, .p, .p] [(14, .bool b282), (15, .bool (!b282)), (16, .bool true), (17, .slice (some ⟨b382, q383, none⟩) a0.length c0z), (18, .int .i64 x283), (19, .pointer (some ⟨b382, q383 + x283.toNat * 1, none⟩)), (20, .int .i64 (idx a0 x283)), (21, .int .i64 a1), (22, .bool (decide (idx a0 x283 ≥ a1))), (23, .bool (decide (idx a0 x283 ≥ a1)))] [((bif (!b282) == true then 0 else -1), 1), (x283, a0.length)] ⟨(hI.lies (rdS.flook hr0z rfl g381)), trivial⟩ ⟨(bndEq hc380), g381, trivial⟩ (by kernel_rfl) (by kernel_rfl) (by kernel_rfl) ?_
          refine r_out (by kernel_rfl) ?_
          exact hJ367 (decide (idx a0 x283 ≥ a1)) _ _ ⟨_, at_slots _ (by kernel_rfl), hI⟩ H
        · refine o_batch 0 [] [.p, .p, .c false, .p, .p, .p, .p, .p, .p, .p] [(14, .bool b282), (15, .bool (!b282)), (16, .bool false), (17, undef), (18, undef), (19, undef), (20, undef), (21, undef), (22, undef), (23, .bool false)] [((bif (!b282) == false then 0 else -1), 1)] trivial ⟨(bndEq hc380), trivial⟩ (by kernel_rfl) (by kernel_rfl) (by kernel_rfl) ?_
          refine r_out (by kernel_rfl) ?_
          exact hJ367 false _ _ ⟨_, at_slots _ (by kernel_rfl), hI⟩ H
  · refine go_else' (t := decide (x283 < (a0.length : Int))) (by kernel_rfl) hc285 ?_
    refine go_exit rfl ?_
    refine go_seq_join (o := o1) (fun l389 f w => ∃ (j : Nat → Value) (A390 : Option Addr) (c391 : Nat), f = updL j [(5, .slice A390 l389.length c391)] ∧ Inv M w [.row (tInt .i64) 2 A390 l389.length c391 l389]) (fun l389 => assizeref08zinclude.j4 l389) ?_ (fun hJ392 => ?_)
    · clear H hI
      rintro l389 _ _ ⟨_, A390, c391, rfl, hI⟩ H
      refine go_seq ?_
      refine r_in ?_
      refine o_batch 0 [] [.p, .p] [(47, .slice A390 l389.length c391), (4, .slice A390 l389.length c391)] [] trivial trivial (by kernel_rfl) (by kernel_rfl) (by kernel_rfl) ?_
      refine r_out (by kernel_rfl) ?_
      replace H := out_some H
      obtain ⟨_, H, he1⟩ := H
      have he := (hout1 _ he1).symm
      subst he
      replace H := Option.some.inj H
      subst H
      exact go_return (.slice A390 l389.length c391) Try.func39 (by kernel_rfl) ⟨A390, c391, rfl, hI⟩
    · refine go_seq ?_
      refine r_in ?_
      refine o_batch 0 [] [.p, .p] [(41, .bool b282), (42, .bool (!b282))] [] trivial trivial (by kernel_rfl) (by kernel_rfl) (by kernel_rfl) ?_
      refine r_out (by kernel_rfl) ?_
      replace H := cond_some H
      rcases H with ⟨hc393, H⟩ | ⟨hc393, H⟩
      · refine go_then' (t := !b282) (by kernel_rfl) hc393 ?_
        refine r_in ?_
        refine o_batch 0 [] [.p, .p] [(43, .slice A280 l279.length c281), (44, .int .i64 a1)] [] trivial trivial (by kernel_rfl) (by kernel_rfl) (by kernel_rfl) ?_
        refine o_eff 2 _ rfl (by kernel_rfl) ?_
        refine e_parts 22 2 1 _ _ _ #[.int .i64 a1] [.int .i64 a1] rfl rfl rfl rfl (by kernel_rfl) (by kernel_rfl) (by kernel_rfl) (by kernel_rfl) hI ?_
        clear hI
        intro b394 _ hI
        replace H := must_some H
        obtain ⟨g395, H⟩ := H
        refine o_eff 3 _ rfl (by kernel_rfl) ?_
        refine e_append (tInt .i64) 22 0 2 _ _ _ _ A280 l279.length c281 l279 ([a1] : List Int) b394 0 1 1 [.int .i64 a1] 0 [] [1] [] [.blk b394 2 [.int .i64 a1]] rfl (by kernel_rfl) (by kernel_rfl) rfl rfl rfl rfl rfl (by kernel_rfl) hI (by decide) rfl rfl rfl (hI.grp 1 rfl) g395 (mks_cons (mk_flat (k := (tInt .i64)) a1 [.int .i64 a1] rfl) mks_nil) ?_
        clear hI
        intro A396 c397 _ hI
        replace hI := hI.pick (L' := [.row (tInt .i64) 2 A396 ((l279 ++ ([a1] : List Int)).length) c397 (l279 ++ ([a1] : List Int))]) [0] (by decide) rfl
        refine o_batch 4 [] [.p] [(5, .slice A396 ((l279 ++ ([a1] : List Int)).length) c397)] [] trivial trivial (by kernel_rfl) (by kernel_rfl) (by kernel_rfl) ?_
        refine r_out (by kernel_rfl) ?_
        exact hJ392 (l279 ++ ([a1] : List Int)) _ _ ⟨_, A396, c397, at_slots _ (by kernel_rfl), hI⟩ H
      · refine go_else' (t := !b282) (by kernel_rfl) hc393 ?_
        refine go_skip ?_
        exact hJ392 l279 _ _ ⟨_, A280, c281, at_slots _ (by kernel_rfl), hI⟩ H

end Go.Proofs.YtmfihodpbladeaaT
