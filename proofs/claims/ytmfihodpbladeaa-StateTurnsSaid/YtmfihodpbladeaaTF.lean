/- The same functions with fuel, for what they answer at fixed inputs. -/
import Derived.Test.YtmfihodpbladeaaTD
import Derived.Test.YtmfihodpbladeaaP
namespace Go.Proofs.YtmfihodpbladeaaT
open Go Go.Proofs Go.Proofs.YtmfihodpbladeaaE
set_option linter.unusedVariables false
set_option linter.unusedSimpArgs false
set_option maxHeartbeats 0
set_option maxRecDepth 4096
namespace Fuel
def iterF {σ Ω : Type} (step : σ → Option (σ ⊕ Ω)) (s : σ) : Option Ω := iterN step 4096 s
theorem le_iterF {σ Ω : Type} {f g : σ → Option (σ ⊕ Ω)} {s : σ} (h : ∀ s, Le (f s) (g s)) : Le (iterF f s) (iter g s) := le_iter h
noncomputable def state_of (a0 : Int) : Option Int :=
  bif (a0 == 1) then some 83 else (bif (a0 == 2) then some 84 else (bif (a0 == 3) then some 85 else (bif (a0 == 4) then some 86 else (some (-1)))))
noncomputable def state_register_sound (a0 : Unit) (a1 : List Int) : Option Bool :=
  some (decide ((a1.length : Int) ≤ 1))
noncomputable def state_list_sound (a0 : Unit) (a1 : List Int) : Option Bool :=
  some (decide ((a1.length : Int) ≤ 64))
noncomputable def state_set_sound.s1 (a1 : List Int) : Int → Option (Int ⊕ Bool)
  | x68 => bif decide (x68 < (a1.length : Int)) then must (0 ≤ w64 (x68 - 1) ∧ w64 (x68 - 1) < (a1.length : Int)) (must (0 ≤ x68 ∧ x68 < (a1.length : Int)) (bif decide (idx a1 (w64 (x68 - 1)) ≥ idx a1 x68) then out (some false) else (some (.inl (w64 (x68 + 1)))))) else (out (some (decide ((a1.length : Int) ≤ 64))))
noncomputable def state_set_sound (a0 : Unit) (a1 : List Int) : Option Bool :=
  iterF (state_set_sound.s1 a1) 1
noncomputable def state_counter_sound (a0 : Unit) (a1 : List Int) : Option Bool :=
  some ((a1.length : Int) == 1)
noncomputable def state_Check (a0 : Int) (a1 : List Int) : Option Int :=
  (state_of a0).bind fun y8 => bif (y8 == (83 : Int)) then (state_register_sound () a1).bind fun y19 => bif !y19 then some 80 else (some 0) else (bif (y8 == (84 : Int)) then (state_list_sound () a1).bind fun y31 => bif !y31 then some 80 else (some 0) else (bif (y8 == (85 : Int)) then (state_set_sound () a1).bind fun y43 => bif !y43 then some 80 else (some 0) else (bif (y8 == (86 : Int)) then (state_counter_sound () a1).bind fun y55 => bif !y55 then some 80 else (some 0) else (bif (y8 == ((-1) : Int)) then some 1 else none))))
noncomputable def state_register_with (a0 : Unit) (a1 : List Int) (a2 : Int) : Option (List Int) :=
  some ([a2] : List Int)
noncomputable def slices_Clone_int64 (a0 : List Int) : Option (List Int) :=
  must (a0.length * 8 ≤ 140737488355328) (some a0)
noncomputable def state_list_with (a0 : Unit) (a1 : List Int) (a2 : Int) : Option (List Int) :=
  (slices_Clone_int64 a1).bind fun y11 => must ((y11.length + 1) * 8 ≤ 140737488355328 ∧ y11.length + 1 ≤ 9223372036854775807) (some (y11 ++ ([a2] : List Int)))
noncomputable def cmp_isNaN_int64 (a0 : Int) : Option Bool :=
  some (a0 != a0)
noncomputable def cmp_Less_int64 (a0 : Int) (a1 : Int) : Option Bool :=
  (cmp_isNaN_int64 a0).bind fun y7 => bif y7 then (cmp_isNaN_int64 a1).bind fun y10 => bif !y10 then some true else (some (decide (a0 < a1))) else (some (decide (a0 < a1)))
noncomputable def slices_isNaN_int64 (a0 : Int) : Option Bool :=
  some (a0 != a0)
noncomputable def slices_BinarySearch_int64.j2 (x126 : Int) (x127 : Int) : Option ((Int × Int) ⊕ (Int × Bool)) :=
  some (.inl (x126, x127))
noncomputable def slices_BinarySearch_int64.s1 (a0 : List Int) (a1 : Int) : (Int × Int) → Option ((Int × Int) ⊕ (Int × Bool))
  | (x115, x116) => bif decide (x115 < x116) then must (0 ≤ (1 : Int) ∧ (1 : Int) < (far : Int)) (must (0 ≤ w64 (sShr .u64 (IntKind.wrap .u64 (w64 (x115 + x116))) (1 : Int)) ∧ w64 (sShr .u64 (IntKind.wrap .u64 (w64 (x115 + x116))) (1 : Int)) < (a0.length : Int)) ((cmp_Less_int64 (idx a0 (w64 (sShr .u64 (IntKind.wrap .u64 (w64 (x115 + x116))) (1 : Int)))) a1).bind fun y139 => bif y139 then slices_BinarySearch_int64.j2 (w64 ((w64 (sShr .u64 (IntKind.wrap .u64 (w64 (x115 + x116))) (1 : Int))) + 1)) x116 else (slices_BinarySearch_int64.j2 x115 (w64 (sShr .u64 (IntKind.wrap .u64 (w64 (x115 + x116))) (1 : Int)))))) else (bif decide (x115 < (a0.length : Int)) then must (0 ≤ x115 ∧ x115 < (a0.length : Int)) (bif (idx a0 x115 == a1) then out (some (x115, true)) else ((slices_isNaN_int64 (idx a0 x115)).bind fun y157 => bif y157 then (slices_isNaN_int64 a1).bind fun y160 => out (some (x115, y160)) else (out (some (x115, false))))) else (out (some (x115, false))))
noncomputable def slices_BinarySearch_int64 (a0 : List Int) (a1 : Int) : Option (Int × Bool) :=
  iterF (slices_BinarySearch_int64.s1 a0 a1) (0, (a0.length : Int))
noncomputable def slices_Insert_int64 (a0 : List Int) (a1 : Int) (a2 : List Int) : Option (List Int) :=
  must (0 ≤ a1 ∧ a1 ≤ (a0.length : Int) ∧ 0 < a2.length ∧ (a0.length + a2.length) * 8 ≤ 140737488355328) (some (a0.take a1.toNat ++ a2 ++ a0.drop a1.toNat))
noncomputable def state_set_with (a0 : Unit) (a1 : List Int) (a2 : Int) : Option (List Int) :=
  (slices_BinarySearch_int64 a1 a2).bind fun y5 => bif y5.2 then (slices_Clone_int64 a1).bind fun y17 => some y17 else ((slices_Clone_int64 a1).bind fun y35 => (slices_Insert_int64 y35 y5.1 ([a2] : List Int)).bind fun y45 => some y45)
noncomputable def state_counter_with (a0 : Unit) (a1 : List Int) (a2 : Int) : Option (List Int) :=
  must (0 ≤ (0 : Int) ∧ (0 : Int) < (a1.length : Int)) (some ([w64 ((idx a1 (0 : Int)) + a2)] : List Int))
noncomputable def state_Apply.j1 (l32 : List Int) : Option (List Int × Int) :=
  bif decide ((l32.length : Int) > 64) then some (([] : List Int), 2) else (some (l32, 0))
noncomputable def state_Apply (a0 : Int) (a1 : List Int) (a2 : Int) : Option (List Int × Int) :=
  (state_Check a0 a1).bind fun y6 => bif (y6 != 0) then some (([] : List Int), y6) else ((state_of a0).bind fun y38 => bif (y38 == (83 : Int)) then (state_register_with () a1 a2).bind fun y41 => state_Apply.j1 y41 else (bif (y38 == (84 : Int)) then (state_list_with () a1 a2).bind fun y46 => state_Apply.j1 y46 else (bif (y38 == (85 : Int)) then (state_set_with () a1 a2).bind fun y51 => state_Apply.j1 y51 else (bif (y38 == (86 : Int)) then (state_counter_with () a1 a2).bind fun y56 => state_Apply.j1 y56 else (bif (y38 == ((-1) : Int)) then none else none)))))
noncomputable def state_register_without (a0 : Unit) (a1 : List Int) (a2 : List Int) : Option (List Int × Bool) :=
  bif ((a1.length : Int) == 1) then must (0 ≤ (0 : Int) ∧ (0 : Int) < (a1.length : Int)) (must (0 ≤ w64 ((a2.length : Int) - 1) ∧ w64 ((a2.length : Int) - 1) < (a2.length : Int)) (some (([] : List Int), (idx a1 (0 : Int) == idx a2 (w64 ((a2.length : Int) - 1)))))) else (some (([] : List Int), false))
noncomputable def slices_Equal_int64.s1 (a0 : List Int) (a1 : List Int) : Int → Option (Int ⊕ Bool)
  | x84 => bif decide (x84 < (a0.length : Int)) then must (0 ≤ x84 ∧ x84 < (a0.length : Int)) (must (0 ≤ x84 ∧ x84 < (a1.length : Int)) (bif (idx a0 x84 != idx a1 x84) then out (some false) else (some (.inl (w64 (x84 + 1)))))) else (out (some true))
noncomputable def slices_Equal_int64 (a0 : List Int) (a1 : List Int) : Option Bool :=
  bif ((a0.length : Int) != (a1.length : Int)) then some false else (iterF (slices_Equal_int64.s1 a0 a1) 0)
noncomputable def state_list_without.j1 (a1 : List Int) (a2 : List Int) (b21 : Bool) : Option (List Int × Bool) :=
  bif b21 then some (([] : List Int), false) else (must (0 ≤ (0 : Int) ∧ (0 : Int) ≤ (w64 ((a1.length : Int) - (a2.length : Int))) ∧ (w64 ((a1.length : Int) - (a2.length : Int))) ≤ (a1.length : Int)) ((slices_Clone_int64 (subl a1 (0 : Int) (w64 ((a1.length : Int) - (a2.length : Int))))).bind fun y38 => some (y38, true)))
noncomputable def state_list_without (a0 : Unit) (a1 : List Int) (a2 : List Int) : Option (List Int × Bool) :=
  bif decide (w64 ((a1.length : Int) - (a2.length : Int)) < 0) then state_list_without.j1 a1 a2 true else (must (0 ≤ (w64 ((a1.length : Int) - (a2.length : Int))) ∧ (w64 ((a1.length : Int) - (a2.length : Int))) ≤ (a1.length : Int) ∧ (a1.length : Int) ≤ (a1.length : Int)) ((slices_Equal_int64 (subl a1 (w64 ((a1.length : Int) - (a2.length : Int))) (a1.length : Int)) a2).bind fun y48 => state_list_without.j1 a1 a2 (!y48)))
noncomputable def slices_Delete_int64 (a0 : List Int) (a1 a2 : Int) : Option (List Int) :=
  must (0 ≤ a1 ∧ a1 ≤ a2 ∧ a2 ≤ (a0.length : Int)) (some (a0.take a1.toNat ++ a0.drop a2.toNat))
noncomputable def state_set_without.s1 (a2 : List Int) : (List Int × Int) → Option ((List Int × Int) ⊕ (List Int × Bool))
  | (l207, x210) => bif decide (x210 < (a2.length : Int)) then must (0 ≤ x210 ∧ x210 < (a2.length : Int)) ((slices_BinarySearch_int64 l207 (idx a2 x210)).bind fun y251 => bif !y251.2 then out (some (([] : List Int), false)) else ((slices_Delete_int64 l207 y251.1 (w64 (y251.1 + 1))).bind fun y260 => some (.inl (y260, w64 (x210 + 1))))) else (out (some (l207, true)))
noncomputable def state_set_without (a0 : Unit) (a1 : List Int) (a2 : List Int) : Option (List Int × Bool) :=
  (slices_Clone_int64 a1).bind fun y7 => iterF (state_set_without.s1 a2) (y7, 0)
noncomputable def state_counter_without.s1 (a2 : List Int) : (Int × Int) → Option ((Int × Int) ⊕ (List Int × Bool))
  | (x75, x76) => bif decide (x76 < (a2.length : Int)) then must (0 ≤ x76 ∧ x76 < (a2.length : Int)) (some (.inl (w64 (x75 - (idx a2 x76)), w64 (x76 + 1)))) else (out (some (([x75] : List Int), true)))
noncomputable def state_counter_without (a0 : Unit) (a1 : List Int) (a2 : List Int) : Option (List Int × Bool) :=
  must (0 ≤ (0 : Int) ∧ (0 : Int) < (a1.length : Int)) (iterF (state_counter_without.s1 a2) (idx a1 (0 : Int), 0))
noncomputable def state_Before.j1 (a0 : Int) (a1 : List Int) (a2 : List Int) (b9 : Bool) : Option (List Int × Bool) :=
  bif b9 then some (([] : List Int), false) else ((state_of a0).bind fun y35 => bif (y35 == (83 : Int)) then (state_register_without () a1 a2).bind fun y38 => some (y38.1, y38.2) else (bif (y35 == (84 : Int)) then (state_list_without () a1 a2).bind fun y43 => some (y43.1, y43.2) else (bif (y35 == (85 : Int)) then (state_set_without () a1 a2).bind fun y48 => some (y48.1, y48.2) else (bif (y35 == (86 : Int)) then (state_counter_without () a1 a2).bind fun y53 => some (y53.1, y53.2) else (bif (y35 == ((-1) : Int)) then none else none)))))
noncomputable def state_Before (a0 : Int) (a1 : List Int) (a2 : List Int) : Option (List Int × Bool) :=
  (state_Check a0 a1).bind fun y58 => bif (y58 != 0) then state_Before.j1 a0 a1 a2 true else (state_Before.j1 a0 a1 a2 ((a2.length : Int) == 0))
noncomputable def assizelaw08zalive : Option Bool :=
  (state_Apply 3 ([1, 5] : List Int) 3).bind fun y7 => (state_Before 2 ([1, 2, 3] : List Int) ([2, 3] : List Int)).bind fun y19 => bif (y7.2 == 0) then bif ((y7.1.length : Int) == 3) then must (0 ≤ (1 : Int) ∧ (1 : Int) < (y7.1.length : Int)) (bif (idx y7.1 (1 : Int) == 3) then bif y19.2 then bif ((y19.1.length : Int) == 1) then must (0 ≤ (0 : Int) ∧ (0 : Int) < (y19.1.length : Int)) (bif (idx y19.1 (0 : Int) == 1) then (state_Check 4 ([] : List Int)).bind fun y45 => some (y45 == 80) else (some false)) else (some false) else (some false) else (some false)) else (some false) else (some false)
end Fuel
theorem state_of_le (a0 : Int) : Le (Fuel.state_of a0) (state_of a0) := by
  simp only [Fuel.state_of, state_of]
  repeat' (first | with_reducible exact le_refl _ | with_reducible apply le_must | with_reducible apply le_cond | with_reducible apply le_out | with_reducible refine le_bind ?_ (fun _ => ?_) | with_reducible refine Fuel.le_iterF (fun _ => ?_))

theorem state_register_sound_le (a0 : Unit) (a1 : List Int) : Le (Fuel.state_register_sound a0 a1) (state_register_sound a0 a1) := by
  simp only [Fuel.state_register_sound, state_register_sound]
  repeat' (first | with_reducible exact le_refl _ | with_reducible apply le_must | with_reducible apply le_cond | with_reducible apply le_out | with_reducible refine le_bind ?_ (fun _ => ?_) | with_reducible refine Fuel.le_iterF (fun _ => ?_))

theorem state_list_sound_le (a0 : Unit) (a1 : List Int) : Le (Fuel.state_list_sound a0 a1) (state_list_sound a0 a1) := by
  simp only [Fuel.state_list_sound, state_list_sound]
  repeat' (first | with_reducible exact le_refl _ | with_reducible apply le_must | with_reducible apply le_cond | with_reducible apply le_out | with_reducible refine le_bind ?_ (fun _ => ?_) | with_reducible refine Fuel.le_iterF (fun _ => ?_))

theorem state_set_sound.s1zle (a1 : List Int) (s : _) : Le (Fuel.state_set_sound.s1 a1 s) (state_set_sound.s1 a1 s) := by
  simp only [Fuel.state_set_sound.s1, state_set_sound.s1]
  repeat' (first | with_reducible exact le_refl _ | with_reducible apply le_must | with_reducible apply le_cond | with_reducible apply le_out | with_reducible refine le_bind ?_ (fun _ => ?_) | with_reducible refine Fuel.le_iterF (fun _ => ?_))

theorem state_set_sound_le (a0 : Unit) (a1 : List Int) : Le (Fuel.state_set_sound a0 a1) (state_set_sound a0 a1) := by
  simp only [Fuel.state_set_sound, state_set_sound]
  repeat' (first | with_reducible exact le_refl _ | with_reducible apply state_set_sound.s1zle | with_reducible apply le_must | with_reducible apply le_cond | with_reducible apply le_out | with_reducible refine le_bind ?_ (fun _ => ?_) | with_reducible refine Fuel.le_iterF (fun _ => ?_))

theorem state_counter_sound_le (a0 : Unit) (a1 : List Int) : Le (Fuel.state_counter_sound a0 a1) (state_counter_sound a0 a1) := by
  simp only [Fuel.state_counter_sound, state_counter_sound]
  repeat' (first | with_reducible exact le_refl _ | with_reducible apply le_must | with_reducible apply le_cond | with_reducible apply le_out | with_reducible refine le_bind ?_ (fun _ => ?_) | with_reducible refine Fuel.le_iterF (fun _ => ?_))

theorem state_Check_le (a0 : Int) (a1 : List Int) : Le (Fuel.state_Check a0 a1) (state_Check a0 a1) := by
  simp only [Fuel.state_Check, state_Check]
  repeat' (first | with_reducible exact le_refl _ | with_reducible apply state_of_le | with_reducible apply state_register_sound_le | with_reducible apply state_list_sound_le | with_reducible apply state_set_sound_le | with_reducible apply state_counter_sound_le | with_reducible apply le_must | with_reducible apply le_cond | with_reducible apply le_out | with_reducible refine le_bind ?_ (fun _ => ?_) | with_reducible refine Fuel.le_iterF (fun _ => ?_))

theorem state_register_with_le (a0 : Unit) (a1 : List Int) (a2 : Int) : Le (Fuel.state_register_with a0 a1 a2) (state_register_with a0 a1 a2) := by
  simp only [Fuel.state_register_with, state_register_with]
  repeat' (first | with_reducible exact le_refl _ | with_reducible apply le_must | with_reducible apply le_cond | with_reducible apply le_out | with_reducible refine le_bind ?_ (fun _ => ?_) | with_reducible refine Fuel.le_iterF (fun _ => ?_))

theorem slices_Clone_int64zle (a0 : List Int) : Le (Fuel.slices_Clone_int64 a0) (slices_Clone_int64 a0) := by
  simp only [Fuel.slices_Clone_int64, slices_Clone_int64]
  repeat' (first | with_reducible exact le_refl _ | with_reducible apply le_must | with_reducible apply le_cond | with_reducible apply le_out | with_reducible refine le_bind ?_ (fun _ => ?_) | with_reducible refine Fuel.le_iterF (fun _ => ?_))

theorem state_list_with_le (a0 : Unit) (a1 : List Int) (a2 : Int) : Le (Fuel.state_list_with a0 a1 a2) (state_list_with a0 a1 a2) := by
  simp only [Fuel.state_list_with, state_list_with]
  repeat' (first | with_reducible exact le_refl _ | with_reducible apply slices_Clone_int64zle | with_reducible apply le_must | with_reducible apply le_cond | with_reducible apply le_out | with_reducible refine le_bind ?_ (fun _ => ?_) | with_reducible refine Fuel.le_iterF (fun _ => ?_))

theorem cmp_isNaN_int64zle (a0 : Int) : Le (Fuel.cmp_isNaN_int64 a0) (cmp_isNaN_int64 a0) := by
  simp only [Fuel.cmp_isNaN_int64, cmp_isNaN_int64]
  repeat' (first | with_reducible exact le_refl _ | with_reducible apply le_must | with_reducible apply le_cond | with_reducible apply le_out | with_reducible refine le_bind ?_ (fun _ => ?_) | with_reducible refine Fuel.le_iterF (fun _ => ?_))

theorem cmp_Less_int64zle (a0 : Int) (a1 : Int) : Le (Fuel.cmp_Less_int64 a0 a1) (cmp_Less_int64 a0 a1) := by
  simp only [Fuel.cmp_Less_int64, cmp_Less_int64]
  repeat' (first | with_reducible exact le_refl _ | with_reducible apply cmp_isNaN_int64zle | with_reducible apply le_must | with_reducible apply le_cond | with_reducible apply le_out | with_reducible refine le_bind ?_ (fun _ => ?_) | with_reducible refine Fuel.le_iterF (fun _ => ?_))

theorem slices_isNaN_int64zle (a0 : Int) : Le (Fuel.slices_isNaN_int64 a0) (slices_isNaN_int64 a0) := by
  simp only [Fuel.slices_isNaN_int64, slices_isNaN_int64]
  repeat' (first | with_reducible exact le_refl _ | with_reducible apply le_must | with_reducible apply le_cond | with_reducible apply le_out | with_reducible refine le_bind ?_ (fun _ => ?_) | with_reducible refine Fuel.le_iterF (fun _ => ?_))

theorem slices_BinarySearch_int64.j2zle (x126 : Int) (x127 : Int) : Le (Fuel.slices_BinarySearch_int64.j2 x126 x127) (slices_BinarySearch_int64.j2 x126 x127) := by
  simp only [Fuel.slices_BinarySearch_int64.j2, slices_BinarySearch_int64.j2]
  repeat' (first | with_reducible exact le_refl _ | with_reducible apply le_must | with_reducible apply le_cond | with_reducible apply le_out | with_reducible refine le_bind ?_ (fun _ => ?_) | with_reducible refine Fuel.le_iterF (fun _ => ?_))

theorem slices_BinarySearch_int64.s1zle (a0 : List Int) (a1 : Int) (s : _) : Le (Fuel.slices_BinarySearch_int64.s1 a0 a1 s) (slices_BinarySearch_int64.s1 a0 a1 s) := by
  obtain ⟨x115, x116⟩ := s
  simp only [Fuel.slices_BinarySearch_int64.s1, slices_BinarySearch_int64.s1]
  repeat' (first | with_reducible exact le_refl _ | with_reducible apply cmp_Less_int64zle | with_reducible apply slices_isNaN_int64zle | with_reducible apply slices_BinarySearch_int64.j2zle | with_reducible apply le_must | with_reducible apply le_cond | with_reducible apply le_out | with_reducible refine le_bind ?_ (fun _ => ?_) | with_reducible refine Fuel.le_iterF (fun _ => ?_))

theorem slices_BinarySearch_int64zle (a0 : List Int) (a1 : Int) : Le (Fuel.slices_BinarySearch_int64 a0 a1) (slices_BinarySearch_int64 a0 a1) := by
  simp only [Fuel.slices_BinarySearch_int64, slices_BinarySearch_int64]
  repeat' (first | with_reducible exact le_refl _ | with_reducible apply slices_BinarySearch_int64.s1zle | with_reducible apply le_must | with_reducible apply le_cond | with_reducible apply le_out | with_reducible refine le_bind ?_ (fun _ => ?_) | with_reducible refine Fuel.le_iterF (fun _ => ?_))

theorem slices_Insert_int64zle (a0 : List Int) (a1 : Int) (a2 : List Int) : Le (Fuel.slices_Insert_int64 a0 a1 a2) (slices_Insert_int64 a0 a1 a2) := by
  simp only [Fuel.slices_Insert_int64, slices_Insert_int64]
  repeat' (first | with_reducible exact le_refl _ | with_reducible apply le_must | with_reducible apply le_cond | with_reducible apply le_out | with_reducible refine le_bind ?_ (fun _ => ?_) | with_reducible refine Fuel.le_iterF (fun _ => ?_))

theorem state_set_with_le (a0 : Unit) (a1 : List Int) (a2 : Int) : Le (Fuel.state_set_with a0 a1 a2) (state_set_with a0 a1 a2) := by
  simp only [Fuel.state_set_with, state_set_with]
  repeat' (first | with_reducible exact le_refl _ | with_reducible apply slices_Clone_int64zle | with_reducible apply slices_BinarySearch_int64zle | with_reducible apply slices_Insert_int64zle | with_reducible apply le_must | with_reducible apply le_cond | with_reducible apply le_out | with_reducible refine le_bind ?_ (fun _ => ?_) | with_reducible refine Fuel.le_iterF (fun _ => ?_))

theorem state_counter_with_le (a0 : Unit) (a1 : List Int) (a2 : Int) : Le (Fuel.state_counter_with a0 a1 a2) (state_counter_with a0 a1 a2) := by
  simp only [Fuel.state_counter_with, state_counter_with]
  repeat' (first | with_reducible exact le_refl _ | with_reducible apply le_must | with_reducible apply le_cond | with_reducible apply le_out | with_reducible refine le_bind ?_ (fun _ => ?_) | with_reducible refine Fuel.le_iterF (fun _ => ?_))

theorem state_Apply.j1zle (l32 : List Int) : Le (Fuel.state_Apply.j1 l32) (state_Apply.j1 l32) := by
  simp only [Fuel.state_Apply.j1, state_Apply.j1]
  repeat' (first | with_reducible exact le_refl _ | with_reducible apply le_must | with_reducible apply le_cond | with_reducible apply le_out | with_reducible refine le_bind ?_ (fun _ => ?_) | with_reducible refine Fuel.le_iterF (fun _ => ?_))

theorem state_Apply_le (a0 : Int) (a1 : List Int) (a2 : Int) : Le (Fuel.state_Apply a0 a1 a2) (state_Apply a0 a1 a2) := by
  simp only [Fuel.state_Apply, state_Apply]
  repeat' (first | with_reducible exact le_refl _ | with_reducible apply state_of_le | with_reducible apply state_Check_le | with_reducible apply state_register_with_le | with_reducible apply state_list_with_le | with_reducible apply state_set_with_le | with_reducible apply state_counter_with_le | with_reducible apply state_Apply.j1zle | with_reducible apply le_must | with_reducible apply le_cond | with_reducible apply le_out | with_reducible refine le_bind ?_ (fun _ => ?_) | with_reducible refine Fuel.le_iterF (fun _ => ?_))

theorem state_register_without_le (a0 : Unit) (a1 : List Int) (a2 : List Int) : Le (Fuel.state_register_without a0 a1 a2) (state_register_without a0 a1 a2) := by
  simp only [Fuel.state_register_without, state_register_without]
  repeat' (first | with_reducible exact le_refl _ | with_reducible apply le_must | with_reducible apply le_cond | with_reducible apply le_out | with_reducible refine le_bind ?_ (fun _ => ?_) | with_reducible refine Fuel.le_iterF (fun _ => ?_))

theorem slices_Equal_int64.s1zle (a0 : List Int) (a1 : List Int) (s : _) : Le (Fuel.slices_Equal_int64.s1 a0 a1 s) (slices_Equal_int64.s1 a0 a1 s) := by
  simp only [Fuel.slices_Equal_int64.s1, slices_Equal_int64.s1]
  repeat' (first | with_reducible exact le_refl _ | with_reducible apply le_must | with_reducible apply le_cond | with_reducible apply le_out | with_reducible refine le_bind ?_ (fun _ => ?_) | with_reducible refine Fuel.le_iterF (fun _ => ?_))

theorem slices_Equal_int64zle (a0 : List Int) (a1 : List Int) : Le (Fuel.slices_Equal_int64 a0 a1) (slices_Equal_int64 a0 a1) := by
  simp only [Fuel.slices_Equal_int64, slices_Equal_int64]
  repeat' (first | with_reducible exact le_refl _ | with_reducible apply slices_Equal_int64.s1zle | with_reducible apply le_must | with_reducible apply le_cond | with_reducible apply le_out | with_reducible refine le_bind ?_ (fun _ => ?_) | with_reducible refine Fuel.le_iterF (fun _ => ?_))

theorem state_list_without.j1zle (a1 : List Int) (a2 : List Int) (b21 : Bool) : Le (Fuel.state_list_without.j1 a1 a2 b21) (state_list_without.j1 a1 a2 b21) := by
  simp only [Fuel.state_list_without.j1, state_list_without.j1]
  repeat' (first | with_reducible exact le_refl _ | with_reducible apply slices_Clone_int64zle | with_reducible apply le_must | with_reducible apply le_cond | with_reducible apply le_out | with_reducible refine le_bind ?_ (fun _ => ?_) | with_reducible refine Fuel.le_iterF (fun _ => ?_))

theorem state_list_without_le (a0 : Unit) (a1 : List Int) (a2 : List Int) : Le (Fuel.state_list_without a0 a1 a2) (state_list_without a0 a1 a2) := by
  simp only [Fuel.state_list_without, state_list_without]
  repeat' (first | with_reducible exact le_refl _ | with_reducible apply slices_Equal_int64zle | with_reducible apply state_list_without.j1zle | with_reducible apply le_must | with_reducible apply le_cond | with_reducible apply le_out | with_reducible refine le_bind ?_ (fun _ => ?_) | with_reducible refine Fuel.le_iterF (fun _ => ?_))

theorem slices_Delete_int64zle (a0 : List Int) (a1 a2 : Int) : Le (Fuel.slices_Delete_int64 a0 a1 a2) (slices_Delete_int64 a0 a1 a2) := by
  simp only [Fuel.slices_Delete_int64, slices_Delete_int64]
  repeat' (first | with_reducible exact le_refl _ | with_reducible apply le_must | with_reducible apply le_cond | with_reducible apply le_out | with_reducible refine le_bind ?_ (fun _ => ?_) | with_reducible refine Fuel.le_iterF (fun _ => ?_))

theorem state_set_without.s1zle (a2 : List Int) (s : _) : Le (Fuel.state_set_without.s1 a2 s) (state_set_without.s1 a2 s) := by
  obtain ⟨l207, x210⟩ := s
  simp only [Fuel.state_set_without.s1, state_set_without.s1]
  repeat' (first | with_reducible exact le_refl _ | with_reducible apply slices_BinarySearch_int64zle | with_reducible apply slices_Delete_int64zle | with_reducible apply le_must | with_reducible apply le_cond | with_reducible apply le_out | with_reducible refine le_bind ?_ (fun _ => ?_) | with_reducible refine Fuel.le_iterF (fun _ => ?_))

theorem state_set_without_le (a0 : Unit) (a1 : List Int) (a2 : List Int) : Le (Fuel.state_set_without a0 a1 a2) (state_set_without a0 a1 a2) := by
  simp only [Fuel.state_set_without, state_set_without]
  repeat' (first | with_reducible exact le_refl _ | with_reducible apply slices_Clone_int64zle | with_reducible apply state_set_without.s1zle | with_reducible apply le_must | with_reducible apply le_cond | with_reducible apply le_out | with_reducible refine le_bind ?_ (fun _ => ?_) | with_reducible refine Fuel.le_iterF (fun _ => ?_))

theorem state_counter_without.s1zle (a2 : List Int) (s : _) : Le (Fuel.state_counter_without.s1 a2 s) (state_counter_without.s1 a2 s) := by
  obtain ⟨x75, x76⟩ := s
  simp only [Fuel.state_counter_without.s1, state_counter_without.s1]
  repeat' (first | with_reducible exact le_refl _ | with_reducible apply le_must | with_reducible apply le_cond | with_reducible apply le_out | with_reducible refine le_bind ?_ (fun _ => ?_) | with_reducible refine Fuel.le_iterF (fun _ => ?_))

theorem state_counter_without_le (a0 : Unit) (a1 : List Int) (a2 : List Int) : Le (Fuel.state_counter_without a0 a1 a2) (state_counter_without a0 a1 a2) := by
  simp only [Fuel.state_counter_without, state_counter_without]
  repeat' (first | with_reducible exact le_refl _ | with_reducible apply state_counter_without.s1zle | with_reducible apply le_must | with_reducible apply le_cond | with_reducible apply le_out | with_reducible refine le_bind ?_ (fun _ => ?_) | with_reducible refine Fuel.le_iterF (fun _ => ?_))

theorem state_Before.j1zle (a0 : Int) (a1 : List Int) (a2 : List Int) (b9 : Bool) : Le (Fuel.state_Before.j1 a0 a1 a2 b9) (state_Before.j1 a0 a1 a2 b9) := by
  simp only [Fuel.state_Before.j1, state_Before.j1]
  repeat' (first | with_reducible exact le_refl _ | with_reducible apply state_of_le | with_reducible apply state_register_without_le | with_reducible apply state_list_without_le | with_reducible apply state_set_without_le | with_reducible apply state_counter_without_le | with_reducible apply le_must | with_reducible apply le_cond | with_reducible apply le_out | with_reducible refine le_bind ?_ (fun _ => ?_) | with_reducible refine Fuel.le_iterF (fun _ => ?_))

theorem state_Before_le (a0 : Int) (a1 : List Int) (a2 : List Int) : Le (Fuel.state_Before a0 a1 a2) (state_Before a0 a1 a2) := by
  simp only [Fuel.state_Before, state_Before]
  repeat' (first | with_reducible exact le_refl _ | with_reducible apply state_Check_le | with_reducible apply state_Before.j1zle | with_reducible apply le_must | with_reducible apply le_cond | with_reducible apply le_out | with_reducible refine le_bind ?_ (fun _ => ?_) | with_reducible refine Fuel.le_iterF (fun _ => ?_))

theorem assizelaw08zalive_le  : Le (Fuel.assizelaw08zalive) (assizelaw08zalive) := by
  simp only [Fuel.assizelaw08zalive, assizelaw08zalive]
  repeat' (first | with_reducible exact le_refl _ | with_reducible apply state_Check_le | with_reducible apply state_Apply_le | with_reducible apply state_Before_le | with_reducible apply le_must | with_reducible apply le_cond | with_reducible apply le_out | with_reducible refine le_bind ?_ (fun _ => ?_) | with_reducible refine Fuel.le_iterF (fun _ => ?_))

theorem assizelaw08zalive_true : assizelaw08zalive = some true := assizelaw08zalive_le _ (by decide +kernel)
end Go.Proofs.YtmfihodpbladeaaT
