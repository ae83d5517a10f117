/- The plain functions, and what values are written as. -/
import Derived.Test.YtmfihodpbladeaaS
namespace Go.Proofs.YtmfihodpbladeaaT
open Go Go.Proofs Go.Proofs.YtmfihodpbladeaaE
set_option linter.unusedVariables false
set_option linter.unusedSimpArgs false
set_option maxHeartbeats 0
set_option maxRecDepth 4096


noncomputable def state_of (a0 : Int) : Option Int :=
  bif (a0 == 1) then some 83 else (bif (a0 == 2) then some 84 else (bif (a0 == 3) then some 85 else (bif (a0 == 4) then some 86 else (some (-1)))))

noncomputable def state_register_sound (a0 : Unit) (a1 : List Int) : Option Bool :=
  some (decide ((a1.length : Int) ≤ 1))

noncomputable def state_list_sound (a0 : Unit) (a1 : List Int) : Option Bool :=
  some (decide ((a1.length : Int) ≤ 64))

noncomputable def state_set_sound.s1 (a1 : List Int) : Int → Option (Int ⊕ Bool)
  | x68 => bif decide (x68 < (a1.length : Int)) then must (0 ≤ w64 (x68 - 1) ∧ w64 (x68 - 1) < (a1.length : Int)) (must (0 ≤ x68 ∧ x68 < (a1.length : Int)) (bif decide (idx a1 (w64 (x68 - 1)) ≥ idx a1 x68) then out (some false) else (some (.inl (w64 (x68 + 1)))))) else (out (some (decide ((a1.length : Int) ≤ 64))))
noncomputable def state_set_sound (a0 : Unit) (a1 : List Int) : Option Bool :=
  iter (state_set_sound.s1 a1) 1

noncomputable def state_counter_sound (a0 : Unit) (a1 : List Int) : Option Bool :=
  some ((a1.length : Int) == 1)

noncomputable def state_Check (a0 : Int) (a1 : List Int) : Option Int :=
  (state_of a0).bind fun y8 => bif (y8 == (83 : Int)) then (state_register_sound () a1).bind fun y19 => bif !y19 then some 80 else (some 0) else (bif (y8 == (84 : Int)) then (state_list_sound () a1).bind fun y31 => bif !y31 then some 80 else (some 0) else (bif (y8 == (85 : Int)) then (state_set_sound () a1).bind fun y43 => bif !y43 then some 80 else (some 0) else (bif (y8 == (86 : Int)) then (state_counter_sound () a1).bind fun y55 => bif !y55 then some 80 else (some 0) else (bif (y8 == ((-1) : Int)) then some 1 else none))))

noncomputable def state_register_with (a0 : Unit) (a1 : List Int) (a2 : Int) : Option (List Int) :=
  some ([a2] : List Int)

noncomputable def slices_Clone_int64 (a0 : List Int) : Option (List Int) :=
  must (a0.length * 8 ≤ 140737488355328) (some a0)


noncomputable def state_list_with (a0 : Unit) (a1 : List Int) (a2 : Int) : Option (List Int) :=
  (slices_Clone_int64 a1).bind fun y11 => must ((y11.length + 1) * 8 ≤ 140737488355328 ∧ y11.length + 1 ≤ 9223372036854775807) (some (y11 ++ ([a2] : List Int)))

noncomputable def cmp_isNaN_int64 (a0 : Int) : Option Bool :=
  some (a0 != a0)

noncomputable def cmp_Less_int64 (a0 : Int) (a1 : Int) : Option Bool :=
  (cmp_isNaN_int64 a0).bind fun y7 => bif y7 then (cmp_isNaN_int64 a1).bind fun y10 => bif !y10 then some true else (some (decide (a0 < a1))) else (some (decide (a0 < a1)))

noncomputable def slices_isNaN_int64 (a0 : Int) : Option Bool :=
  some (a0 != a0)

noncomputable def slices_BinarySearch_int64.j2 (x126 : Int) (x127 : Int) : Option ((Int × Int) ⊕ (Int × Bool)) :=
  some (.inl (x126, x127))
noncomputable def slices_BinarySearch_int64.s1 (a0 : List Int) (a1 : Int) : (Int × Int) → Option ((Int × Int) ⊕ (Int × Bool))
  | (x115, x116) => bif decide (x115 < x116) then must (0 ≤ (1 : Int) ∧ (1 : Int) < (far : Int)) (must (0 ≤ w64 (sShr .u64 (IntKind.wrap .u64 (w64 (x115 + x116))) (1 : Int)) ∧ w64 (sShr .u64 (IntKind.wrap .u64 (w64 (x115 + x116))) (1 : Int)) < (a0.length : Int)) ((cmp_Less_int64 (idx a0 (w64 (sShr .u64 (IntKind.wrap .u64 (w64 (x115 + x116))) (1 : Int)))) a1).bind fun y139 => bif y139 then slices_BinarySearch_int64.j2 (w64 ((w64 (sShr .u64 (IntKind.wrap .u64 (w64 (x115 + x116))) (1 : Int))) + 1)) x116 else (slices_BinarySearch_int64.j2 x115 (w64 (sShr .u64 (IntKind.wrap .u64 (w64 (x115 + x116))) (1 : Int)))))) else (bif decide (x115 < (a0.length : Int)) then must (0 ≤ x115 ∧ x115 < (a0.length : Int)) (bif (idx a0 x115 == a1) then out (some (x115, true)) else ((slices_isNaN_int64 (idx a0 x115)).bind fun y157 => bif y157 then (slices_isNaN_int64 a1).bind fun y160 => out (some (x115, y160)) else (out (some (x115, false))))) else (out (some (x115, false))))
noncomputable def slices_BinarySearch_int64 (a0 : List Int) (a1 : Int) : Option (Int × Bool) :=
  iter (slices_BinarySearch_int64.s1 a0 a1) (0, (a0.length : Int))

noncomputable def slices_Insert_int64 (a0 : List Int) (a1 : Int) (a2 : List Int) : Option (List Int) :=
  must (0 ≤ a1 ∧ a1 ≤ (a0.length : Int) ∧ 0 < a2.length ∧ (a0.length + a2.length) * 8 ≤ 140737488355328) (some (a0.take a1.toNat ++ a2 ++ a0.drop a1.toNat))


noncomputable def state_set_with (a0 : Unit) (a1 : List Int) (a2 : Int) : Option (List Int) :=
  (slices_BinarySearch_int64 a1 a2).bind fun y5 => bif y5.2 then (slices_Clone_int64 a1).bind fun y17 => some y17 else ((slices_Clone_int64 a1).bind fun y35 => (slices_Insert_int64 y35 y5.1 ([a2] : List Int)).bind fun y45 => some y45)

noncomputable def state_counter_with (a0 : Unit) (a1 : List Int) (a2 : Int) : Option (List Int) :=
  must (0 ≤ (0 : Int) ∧ (0 : Int) < (a1.length : Int)) (some ([w64 ((idx a1 (0 : Int)) + a2)] : List Int))

noncomputable def state_Apply.j1 (l32 : List Int) : Option (List Int × Int) :=
  bif decide ((l32.length : Int) > 64) then some (([] : List Int), 2) else (some (l32, 0))
noncomputable def state_Apply (a0 : Int) (a1 : List Int) (a2 : Int) : Option (List Int × Int) :=
  (state_Check a0 a1).bind fun y6 => bif (y6 != 0) then some (([] : List Int), y6) else ((state_of a0).bind fun y38 => bif (y38 == (83 : Int)) then (state_register_with () a1 a2).bind fun y41 => state_Apply.j1 y41 else (bif (y38 == (84 : Int)) then (state_list_with () a1 a2).bind fun y46 => state_Apply.j1 y46 else (bif (y38 == (85 : Int)) then (state_set_with () a1 a2).bind fun y51 => state_Apply.j1 y51 else (bif (y38 == (86 : Int)) then (state_counter_with () a1 a2).bind fun y56 => state_Apply.j1 y56 else (bif (y38 == ((-1) : Int)) then none else none)))))

noncomputable def state_register_without (a0 : Unit) (a1 : List Int) (a2 : List Int) : Option (List Int × Bool) :=
  bif ((a1.length : Int) == 1) then must (0 ≤ (0 : Int) ∧ (0 : Int) < (a1.length : Int)) (must (0 ≤ w64 ((a2.length : Int) - 1) ∧ w64 ((a2.length : Int) - 1) < (a2.length : Int)) (some (([] : List Int), (idx a1 (0 : Int) == idx a2 (w64 ((a2.length : Int) - 1)))))) else (some (([] : List Int), false))

noncomputable def slices_Equal_int64.s1 (a0 : List Int) (a1 : List Int) : Int → Option (Int ⊕ Bool)
  | x84 => bif decide (x84 < (a0.length : Int)) then must (0 ≤ x84 ∧ x84 < (a0.length : Int)) (must (0 ≤ x84 ∧ x84 < (a1.length : Int)) (bif (idx a0 x84 != idx a1 x84) then out (some false) else (some (.inl (w64 (x84 + 1)))))) else (out (some true))
noncomputable def slices_Equal_int64 (a0 : List Int) (a1 : List Int) : Option Bool :=
  bif ((a0.length : Int) != (a1.length : Int)) then some false else (iter (slices_Equal_int64.s1 a0 a1) 0)

noncomputable def state_list_without.j1 (a1 : List Int) (a2 : List Int) (b21 : Bool) : Option (List Int × Bool) :=
  bif b21 then some (([] : List Int), false) else (must (0 ≤ (0 : Int) ∧ (0 : Int) ≤ (w64 ((a1.length : Int) - (a2.length : Int))) ∧ (w64 ((a1.length : Int) - (a2.length : Int))) ≤ (a1.length : Int)) ((slices_Clone_int64 (subl a1 (0 : Int) (w64 ((a1.length : Int) - (a2.length : Int))))).bind fun y38 => some (y38, true)))
noncomputable def state_list_without (a0 : Unit) (a1 : List Int) (a2 : List Int) : Option (List Int × Bool) :=
  bif decide (w64 ((a1.length : Int) - (a2.length : Int)) < 0) then state_list_without.j1 a1 a2 true else (must (0 ≤ (w64 ((a1.length : Int) - (a2.length : Int))) ∧ (w64 ((a1.length : Int) - (a2.length : Int))) ≤ (a1.length : Int) ∧ (a1.length : Int) ≤ (a1.length : Int)) ((slices_Equal_int64 (subl a1 (w64 ((a1.length : Int) - (a2.length : Int))) (a1.length : Int)) a2).bind fun y48 => state_list_without.j1 a1 a2 (!y48)))

noncomputable def slices_Delete_int64 (a0 : List Int) (a1 a2 : Int) : Option (List Int) :=
  must (0 ≤ a1 ∧ a1 ≤ a2 ∧ a2 ≤ (a0.length : Int)) (some (a0.take a1.toNat ++ a0.drop a2.toNat))


noncomputable def state_set_without.s1 (a2 : List Int) : (List Int × Int) → Option ((List Int × Int) ⊕ (List Int × Bool))
  | (l207, x210) => bif decide (x210 < (a2.length : Int)) then must (0 ≤ x210 ∧ x210 < (a2.length : Int)) ((slices_BinarySearch_int64 l207 (idx a2 x210)).bind fun y251 => bif !y251.2 then out (some (([] : List Int), false)) else ((slices_Delete_int64 l207 y251.1 (w64 (y251.1 + 1))).bind fun y260 => some (.inl (y260, w64 (x210 + 1))))) else (out (some (l207, true)))
noncomputable def state_set_without (a0 : Unit) (a1 : List Int) (a2 : List Int) : Option (List Int × Bool) :=
  (slices_Clone_int64 a1).bind fun y7 => iter (state_set_without.s1 a2) (y7, 0)

noncomputable def state_counter_without.s1 (a2 : List Int) : (Int × Int) → Option ((Int × Int) ⊕ (List Int × Bool))
  | (x75, x76) => bif decide (x76 < (a2.length : Int)) then must (0 ≤ x76 ∧ x76 < (a2.length : Int)) (some (.inl (w64 (x75 - (idx a2 x76)), w64 (x76 + 1)))) else (out (some (([x75] : List Int), true)))
noncomputable def state_counter_without (a0 : Unit) (a1 : List Int) (a2 : List Int) : Option (List Int × Bool) :=
  must (0 ≤ (0 : Int) ∧ (0 : Int) < (a1.length : Int)) (iter (state_counter_without.s1 a2) (idx a1 (0 : Int), 0))

noncomputable def state_Before.j1 (a0 : Int) (a1 : List Int) (a2 : List Int) (b9 : Bool) : Option (List Int × Bool) :=
  bif b9 then some (([] : List Int), false) else ((state_of a0).bind fun y35 => bif (y35 == (83 : Int)) then (state_register_without () a1 a2).bind fun y38 => some (y38.1, y38.2) else (bif (y35 == (84 : Int)) then (state_list_without () a1 a2).bind fun y43 => some (y43.1, y43.2) else (bif (y35 == (85 : Int)) then (state_set_without () a1 a2).bind fun y48 => some (y48.1, y48.2) else (bif (y35 == (86 : Int)) then (state_counter_without () a1 a2).bind fun y53 => some (y53.1, y53.2) else (bif (y35 == ((-1) : Int)) then none else none)))))
noncomputable def state_Before (a0 : Int) (a1 : List Int) (a2 : List Int) : Option (List Int × Bool) :=
  (state_Check a0 a1).bind fun y58 => bif (y58 != 0) then state_Before.j1 a0 a1 a2 true else (state_Before.j1 a0 a1 a2 ((a2.length : Int) == 0))

noncomputable def assizelaw08zalive : Option Bool :=
  (state_Apply 3 ([1, 5] : List Int) 3).bind fun y7 => (state_Before 2 ([1, 2, 3] : List Int) ([2, 3] : List Int)).bind fun y19 => bif (y7.2 == 0) then bif ((y7.1.length : Int) == 3) then must (0 ≤ (1 : Int) ∧ (1 : Int) < (y7.1.length : Int)) (bif (idx y7.1 (1 : Int) == 3) then bif y19.2 then bif ((y19.1.length : Int) == 1) then must (0 ≤ (0 : Int) ∧ (0 : Int) < (y19.1.length : Int)) (bif (idx y19.1 (0 : Int) == 1) then (state_Check 4 ([] : List Int)).bind fun y45 => some (y45 == 80) else (some false)) else (some false) else (some false) else (some false)) else (some false) else (some false)

noncomputable def assizelaw08zcopied (a0 : List Int) : Option (List Int) :=
  must ((0 + a0.length) * 8 ≤ 140737488355328 ∧ 0 + a0.length ≤ 9223372036854775807) (some (([] : List Int) ++ a0))

noncomputable def assizeref08zCheck.j2 (b81 : Bool) : Option Int :=
  bif !b81 then some 80 else (some 0)
noncomputable def assizeref08zCheck.j4 (x146 : Int) (b160 : Bool) : Option ((Bool × Int) ⊕ Int) :=
  some (.inl (b160, w64 (x146 + 1)))
noncomputable def assizeref08zCheck.s3 (a1 : List Int) : (Bool × Int) → Option ((Bool × Int) ⊕ Int)
  | (b145, x146) => bif decide (x146 < (a1.length : Int)) then bif b145 then must (0 ≤ w64 (x146 - 1) ∧ w64 (x146 - 1) < (a1.length : Int)) (must (0 ≤ x146 ∧ x146 < (a1.length : Int)) (assizeref08zCheck.j4 x146 (decide (idx a1 (w64 (x146 - 1)) < idx a1 x146)))) else (assizeref08zCheck.j4 x146 false) else (out (assizeref08zCheck.j2 b145))
noncomputable def assizeref08zCheck.j1 (a0 : Int) (a1 : List Int) (b5 : Bool) : Option Int :=
  bif b5 then some 1 else (bif (a0 == 1) then assizeref08zCheck.j2 (decide ((a1.length : Int) ≤ 1)) else (bif (a0 == 4) then assizeref08zCheck.j2 ((a1.length : Int) == 1) else (bif (a0 == 3) then iter (assizeref08zCheck.s3 a1) (decide ((a1.length : Int) ≤ 64), 1) else (assizeref08zCheck.j2 (decide ((a1.length : Int) ≤ 64))))))
noncomputable def assizeref08zCheck (a0 : Int) (a1 : List Int) : Option Int :=
  bif decide (a0 < 1) then assizeref08zCheck.j1 a0 a1 true else (assizeref08zCheck.j1 a0 a1 (decide (a0 > 4)))

noncomputable def assizeref08zinclude.j2 (a0 : List Int) (x283 : Int) (l350 : List Int) (b353 : Bool) : Option ((List Int × Bool × Int) ⊕ (List Int)) :=
  must (0 ≤ x283 ∧ x283 < (a0.length : Int)) (must ((l350.length + 1) * 8 ≤ 140737488355328 ∧ l350.length + 1 ≤ 9223372036854775807) (some (.inl (l350 ++ ([idx a0 x283] : List Int), b353, w64 (x283 + 1)))))
noncomputable def assizeref08zinclude.j3 (a0 : List Int) (a1 : Int) (l279 : List Int) (b282 : Bool) (x283 : Int) (b366 : Bool) : Option ((List Int × Bool × Int) ⊕ (List Int)) :=
  bif b366 then must (0 ≤ x283 ∧ x283 < (a0.length : Int)) (bif decide (idx a0 x283 > a1) then must ((l279.length + 1) * 8 ≤ 140737488355328 ∧ l279.length + 1 ≤ 9223372036854775807) (assizeref08zinclude.j2 a0 x283 (l279 ++ ([a1] : List Int)) true) else (assizeref08zinclude.j2 a0 x283 l279 true)) else (assizeref08zinclude.j2 a0 x283 l279 b282)
noncomputable def assizeref08zinclude.j4 (l389 : List Int) : Option ((List Int × Bool × Int) ⊕ (List Int)) :=
  out (some l389)
noncomputable def assizeref08zinclude.s1 (a0 : List Int) (a1 : Int) : (List Int × Bool × Int) → Option ((List Int × Bool × Int) ⊕ (List Int))
  | (l279, b282, x283) => bif decide (x283 < (a0.length : Int)) then bif !b282 then must (0 ≤ x283 ∧ x283 < (a0.length : Int)) (assizeref08zinclude.j3 a0 a1 l279 b282 x283 (decide (idx a0 x283 ≥ a1))) else (assizeref08zinclude.j3 a0 a1 l279 b282 x283 false) else (bif !b282 then must ((l279.length + 1) * 8 ≤ 140737488355328 ∧ l279.length + 1 ≤ 9223372036854775807) (assizeref08zinclude.j4 (l279 ++ ([a1] : List Int))) else (assizeref08zinclude.j4 l279))
noncomputable def assizeref08zinclude (a0 : List Int) (a1 : Int) : Option (List Int) :=
  iter (assizeref08zinclude.s1 a0 a1) ([], false, 0)

noncomputable def assizeref08zApply.j1 (l48 : List Int) : Option (List Int × Int) :=
  bif decide ((l48.length : Int) > 64) then some (([] : List Int), 2) else (some (l48, 0))
noncomputable def assizeref08zApply (a0 : Int) (a1 : List Int) (a2 : Int) : Option (List Int × Int) :=
  (assizeref08zCheck a0 a1).bind fun y3 => bif (y3 != 0) then some (([] : List Int), y3) else (bif (a0 == 1) then assizeref08zApply.j1 ([a2] : List Int) else (bif (a0 == 2) then must ((0 + a1.length) * 8 ≤ 140737488355328 ∧ 0 + a1.length ≤ 9223372036854775807) (must ((((([] : List Int) ++ a1).length) + 1) * 8 ≤ 140737488355328 ∧ ((([] : List Int) ++ a1).length) + 1 ≤ 9223372036854775807) (assizeref08zApply.j1 ((([] : List Int) ++ a1) ++ ([a2] : List Int)))) else (bif (a0 == 3) then (assizeref08zinclude a1 a2).bind fun y65 => assizeref08zApply.j1 y65 else (must (0 ≤ (0 : Int) ∧ (0 : Int) < (a1.length : Int)) (assizeref08zApply.j1 ([w64 ((idx a1 (0 : Int)) + a2)] : List Int))))))

noncomputable def assizeref03zSameVals.s1 (a0 : List Int) (a1 : List Int) : Int → Option (Int ⊕ Bool)
  | x84 => bif decide (x84 < (a0.length : Int)) then must (0 ≤ x84 ∧ x84 < (a0.length : Int)) (must (0 ≤ x84 ∧ x84 < (a1.length : Int)) (bif (idx a0 x84 != idx a1 x84) then out (some false) else (some (.inl (w64 (x84 + 1)))))) else (out (some true))
noncomputable def assizeref03zSameVals (a0 : List Int) (a1 : List Int) : Option Bool :=
  bif ((a0.length : Int) != (a1.length : Int)) then some false else (iter (assizeref03zSameVals.s1 a0 a1) 0)

noncomputable def assizelaw08zStateKeeps.s2 (a1 : List Int) (y17 : List Int) (y57 : List Int × Int) (y65 : List Int × Int) (l161 : List Int) : (List Int × Int) → Option ((List Int × Int) ⊕ ((List Int × Int) ⊕ Bool))
  | (l265, x268) => bif decide (x268 < (l265.length : Int)) then must (0 ≤ x268 ∧ x268 < (l265.length : Int)) (some (.inl (l265.set x268.toNat (-78), w64 (x268 + 1)))) else (must ((l161.length + 1) * 8 ≤ 140737488355328 ∧ l161.length + 1 ≤ 9223372036854775807) (must ((l265.length + 1) * 8 ≤ 140737488355328 ∧ l265.length + 1 ≤ 9223372036854775807) ((assizeref03zSameVals (subl (y17 ++ ([7, 8] : List Int)) (0 : Int) (a1.length : Int)) a1).bind fun y309 => bif y309 then must (0 ≤ (a1.length : Int) ∧ (a1.length : Int) < ((y17 ++ ([7, 8] : List Int)).length : Int)) (bif (idx (y17 ++ ([7, 8] : List Int)) (a1.length : Int) == 7) then must (0 ≤ w64 ((a1.length : Int) + 1) ∧ w64 ((a1.length : Int) + 1) < ((y17 ++ ([7, 8] : List Int)).length : Int)) (bif (idx (y17 ++ ([7, 8] : List Int)) (w64 ((a1.length : Int) + 1)) == 8) then (assizeref03zSameVals y57.1 y65.1).bind fun y317 => bif y317 then must (0 ≤ w64 (((l161 ++ ([5] : List Int)).length : Int) - 1) ∧ w64 (((l161 ++ ([5] : List Int)).length : Int) - 1) < ((l161 ++ ([5] : List Int)).length : Int)) (bif (idx (l161 ++ ([5] : List Int)) (w64 (((l161 ++ ([5] : List Int)).length : Int) - 1)) == 5) then must (0 ≤ w64 (((l265 ++ ([6] : List Int)).length : Int) - 1) ∧ w64 (((l265 ++ ([6] : List Int)).length : Int) - 1) < ((l265 ++ ([6] : List Int)).length : Int)) (out (out (some (idx (l265 ++ ([6] : List Int)) (w64 (((l265 ++ ([6] : List Int)).length : Int) - 1)) == 6)))) else (out (out (some false)))) else (out (out (some false))) else (out (out (some false)))) else (out (out (some false)))) else (out (out (some false))))))
noncomputable def assizelaw08zStateKeeps.s1 (a1 : List Int) (y17 : List Int) (y49 : List Int × Bool) (y57 : List Int × Int) (y65 : List Int × Int) : (List Int × Int) → Option ((List Int × Int) ⊕ Bool)
  | (l161, x164) => bif decide (x164 < (l161.length : Int)) then must (0 ≤ x164 ∧ x164 < (l161.length : Int)) (some (.inl (l161.set x164.toNat (-77), w64 (x164 + 1)))) else (iter (assizelaw08zStateKeeps.s2 a1 y17 y57 y65 l161) (y49.1, 0))
noncomputable def assizelaw08zStateKeeps (a0 : Int) (a1 : List Int) (a2 : Int) : Option Bool :=
  (assizelaw08zalive).bind fun y6 => bif !y6 then some false else ((assizelaw08zcopied a1).bind fun y17 => must ((y17.length + 2) * 8 ≤ 140737488355328 ∧ y17.length + 2 ≤ 9223372036854775807) (must (0 ≤ (0 : Int) ∧ (0 : Int) ≤ (a1.length : Int) ∧ (a1.length : Int) ≤ ((y17 ++ ([7, 8] : List Int)).length : Int)) ((state_Apply a0 (subl (y17 ++ ([7, 8] : List Int)) (0 : Int) (a1.length : Int)) a2).bind fun y39 => (state_Before a0 (subl (y17 ++ ([7, 8] : List Int)) (0 : Int) (a1.length : Int)) ([a2] : List Int)).bind fun y49 => (state_Apply a0 (subl (y17 ++ ([7, 8] : List Int)) (0 : Int) (a1.length : Int)) a2).bind fun y57 => (assizeref08zApply a0 a1 a2).bind fun y65 => iter (assizelaw08zStateKeeps.s1 a1 y17 y49 y57 y65) (y39.1, 0))))

noncomputable def state_register_start (a0 : Unit) : Option (List Int) :=
  some ([] : List Int)

noncomputable def state_list_start (a0 : Unit) : Option (List Int) :=
  some ([] : List Int)

noncomputable def state_set_start (a0 : Unit) : Option (List Int) :=
  some ([] : List Int)

noncomputable def state_counter_start (a0 : Unit) : Option (List Int) :=
  some ([0] : List Int)

noncomputable def state_Start (a0 : Int) : Option (List Int × Int) :=
  (state_of a0).bind fun y8 => bif (y8 == (83 : Int)) then (state_register_start ()).bind fun y15 => some (y15, 0) else (bif (y8 == (84 : Int)) then (state_list_start ()).bind fun y24 => some (y24, 0) else (bif (y8 == (85 : Int)) then (state_set_start ()).bind fun y33 => some (y33, 0) else (bif (y8 == (86 : Int)) then (state_counter_start ()).bind fun y42 => some (y42, 0) else (bif (y8 == ((-1) : Int)) then some (([] : List Int), 1) else none))))

noncomputable def assizeref08zStart.j1 (a0 : Int) (b5 : Bool) : Option (List Int × Int) :=
  bif b5 then some (([] : List Int), 1) else (bif (a0 == 4) then some (([0] : List Int), 0) else (some (([] : List Int), 0)))
noncomputable def assizeref08zStart (a0 : Int) : Option (List Int × Int) :=
  bif decide (a0 < 1) then assizeref08zStart.j1 a0 true else (assizeref08zStart.j1 a0 (decide (a0 > 4)))

noncomputable def assizelaw08zStateApplies (a0 : Int) (a1 : List Int) (a2 : Int) : Option Bool :=
  (assizelaw08zalive).bind fun y6 => bif !y6 then some false else ((assizelaw08zcopied a1).bind fun y17 => (state_Apply a0 y17 a2).bind fun y21 => (assizeref08zApply a0 a1 a2).bind fun y29 => (state_Start a0).bind fun y37 => (assizeref08zStart a0).bind fun y45 => bif (y21.2 == y29.2) then (assizeref03zSameVals y21.1 y29.1).bind fun y62 => bif y62 then bif (y37.2 == y45.2) then (assizeref03zSameVals y37.1 y45.1).bind fun y66 => bif y66 then (state_Check a0 a1).bind fun y69 => (assizeref08zCheck a0 a1).bind fun y71 => some (y69 == y71) else (some false) else (some false) else (some false) else (some false))

noncomputable def state_Fold.j1 (l127 : List Int) (x130 : Int) : Option (List Int × Int) :=
  some (l127, x130)
noncomputable def state_Fold.s2 (a0 : Int) (a1 : List Int) : (List Int × Int × Int) → Option ((List Int × Int × Int) ⊕ (List Int × Int))
  | (l175, x178, x179) => bif decide (x179 < (a1.length : Int)) then must (0 ≤ x179 ∧ x179 < (a1.length : Int)) (bif (x178 != 0) then out (state_Fold.j1 l175 x178) else ((state_Apply a0 l175 (idx a1 x179)).bind fun y206 => some (.inl (y206.1, y206.2, w64 (x179 + 1))))) else (out (state_Fold.j1 l175 x178))
noncomputable def state_Fold (a0 : Int) (a1 : List Int) : Option (List Int × Int) :=
  (state_Start a0).bind fun y5 => iter (state_Fold.s2 a0 a1) (y5.1, y5.2, 0)

noncomputable def assizeref08zFold.j2 (a0 : Int) (a1 : List Int) (l174 : List Int) (x177 : Int) (x178 : Int) (b183 : Bool) : Option ((List Int × Int × Int) ⊕ (List Int × Int)) :=
  bif b183 then must (0 ≤ x178 ∧ x178 < (a1.length : Int)) ((assizeref08zApply a0 l174 (idx a1 x178)).bind fun y203 => some (.inl (y203.1, y203.2, w64 (x178 + 1)))) else (bif (x177 != 0) then out (some (([] : List Int), x177)) else (out (some (l174, 0))))
noncomputable def assizeref08zFold.s1 (a0 : Int) (a1 : List Int) : (List Int × Int × Int) → Option ((List Int × Int × Int) ⊕ (List Int × Int))
  | (l174, x177, x178) => bif decide (x178 < (a1.length : Int)) then assizeref08zFold.j2 a0 a1 l174 x177 x178 (x177 == 0) else (assizeref08zFold.j2 a0 a1 l174 x177 x178 false)
noncomputable def assizeref08zFold (a0 : Int) (a1 : List Int) : Option (List Int × Int) :=
  (assizeref08zStart a0).bind fun y5 => iter (assizeref08zFold.s1 a0 a1) (y5.1, y5.2, 0)

noncomputable def assizeref08zin.s1 (a0 : List Int) (a1 : Int) : Int → Option (Int ⊕ Bool)
  | x58 => bif decide (x58 < (a0.length : Int)) then must (0 ≤ x58 ∧ x58 < (a0.length : Int)) (bif (idx a0 x58 == a1) then out (some true) else (some (.inl (w64 (x58 + 1))))) else (out (some false))
noncomputable def assizeref08zin (a0 : List Int) (a1 : Int) : Option Bool :=
  iter (assizeref08zin.s1 a0 a1) 0

noncomputable def assizeref08zBefore.s2 (a2 : List Int) : (Int × Int) → Option ((Int × Int) ⊕ (List Int × Bool))
  | (x258, x259) => bif decide (x259 < (a2.length : Int)) then must (0 ≤ x259 ∧ x259 < (a2.length : Int)) (some (.inl (w64 (x258 - (idx a2 x259)), w64 (x259 + 1)))) else (out (some (([x258] : List Int), true)))
noncomputable def assizeref08zBefore.s3 (a1 : List Int) (a2 : List Int) : Int → Option (Int ⊕ (List Int × Bool))
  | x357 => bif decide (x357 < (a2.length : Int)) then must (0 ≤ w64 ((w64 ((a1.length : Int) - (a2.length : Int))) + x357) ∧ w64 ((w64 ((a1.length : Int) - (a2.length : Int))) + x357) < (a1.length : Int)) (must (0 ≤ x357 ∧ x357 < (a2.length : Int)) (bif (idx a1 (w64 ((w64 ((a1.length : Int) - (a2.length : Int))) + x357)) != idx a2 x357) then out (some (([] : List Int), false)) else (some (.inl (w64 (x357 + 1)))))) else (must (0 ≤ (0 : Int) ∧ (0 : Int) ≤ (w64 ((a1.length : Int) - (a2.length : Int))) ∧ (w64 ((a1.length : Int) - (a2.length : Int))) ≤ (a1.length : Int)) (must ((0 + ((subl a1 (0 : Int) (w64 ((a1.length : Int) - (a2.length : Int)))).length)) * 8 ≤ 140737488355328 ∧ 0 + ((subl a1 (0 : Int) (w64 ((a1.length : Int) - (a2.length : Int)))).length) ≤ 9223372036854775807) (out (some (([] : List Int) ++ (subl a1 (0 : Int) (w64 ((a1.length : Int) - (a2.length : Int)))), true)))))
noncomputable def assizeref08zBefore.j5 (x550 : Int) (b596 : Bool) : Option (Int ⊕ (List Int × Bool)) :=
  bif b596 then out (some (([] : List Int), false)) else (some (.inl (w64 (x550 + 1))))
noncomputable def assizeref08zBefore.j7 (x795 : Int) (l821 : List Int) : Option ((List Int × Int) ⊕ (Int ⊕ (List Int × Bool))) :=
  some (.inl (l821, w64 (x795 + 1)))
noncomputable def assizeref08zBefore.s6 (a1 : List Int) (a2 : List Int) : (List Int × Int) → Option ((List Int × Int) ⊕ (Int ⊕ (List Int × Bool)))
  | (l792, x795) => bif decide (x795 < (a1.length : Int)) then must (0 ≤ x795 ∧ x795 < (a1.length : Int)) ((assizeref08zin a2 (idx a1 x795)).bind fun y833 => bif !y833 then must ((l792.length + 1) * 8 ≤ 140737488355328 ∧ l792.length + 1 ≤ 9223372036854775807) (assizeref08zBefore.j7 x795 (l792 ++ ([idx a1 x795] : List Int))) else (assizeref08zBefore.j7 x795 l792)) else (out (out (some (l792, true))))
noncomputable def assizeref08zBefore.s4 (a1 : List Int) (a2 : List Int) : Int → Option (Int ⊕ (List Int × Bool))
  | x550 => bif decide (x550 < (a2.length : Int)) then must (0 ≤ x550 ∧ x550 < (a2.length : Int)) ((assizeref08zin a1 (idx a2 x550)).bind fun y602 => bif !y602 then assizeref08zBefore.j5 x550 true else (must (0 ≤ (0 : Int) ∧ (0 : Int) ≤ x550 ∧ x550 ≤ (a2.length : Int)) ((assizeref08zin (subl a2 (0 : Int) x550) (idx a2 x550)).bind fun y610 => assizeref08zBefore.j5 x550 y610))) else (iter (assizeref08zBefore.s6 a1 a2) ([], 0))
noncomputable def assizeref08zBefore.j1 (a0 : Int) (a1 : List Int) (a2 : List Int) (b9 : Bool) : Option (List Int × Bool) :=
  bif b9 then some (([] : List Int), false) else (bif (a0 == 1) then bif ((a1.length : Int) == 1) then must (0 ≤ (0 : Int) ∧ (0 : Int) < (a1.length : Int)) (must (0 ≤ w64 ((a2.length : Int) - 1) ∧ w64 ((a2.length : Int) - 1) < (a2.length : Int)) (some (([] : List Int), (idx a1 (0 : Int) == idx a2 (w64 ((a2.length : Int) - 1)))))) else (some (([] : List Int), false)) else (bif (a0 == 4) then must (0 ≤ (0 : Int) ∧ (0 : Int) < (a1.length : Int)) (iter (assizeref08zBefore.s2 a2) (idx a1 (0 : Int), 0)) else (bif (a0 == 2) then bif decide ((a2.length : Int) > (a1.length : Int)) then some (([] : List Int), false) else (iter (assizeref08zBefore.s3 a1 a2) 0) else (iter (assizeref08zBefore.s4 a1 a2) 0))))
noncomputable def assizeref08zBefore (a0 : Int) (a1 : List Int) (a2 : List Int) : Option (List Int × Bool) :=
  (assizeref08zCheck a0 a1).bind fun y840 => bif (y840 != 0) then assizeref08zBefore.j1 a0 a1 a2 true else (assizeref08zBefore.j1 a0 a1 a2 ((a2.length : Int) == 0))

noncomputable def assizelaw08zStateFolds (a0 : Int) (a1 : List Int) (a2 : List Int) : Option Bool :=
  (assizelaw08zalive).bind fun y6 => bif !y6 then some false else ((assizelaw08zcopied a2).bind fun y17 => (state_Fold a0 y17).bind fun y21 => (assizeref08zFold a0 a2).bind fun y29 => (assizelaw08zcopied a1).bind fun y45 => (assizelaw08zcopied a2).bind fun y49 => (state_Before a0 y45 y49).bind fun y53 => (assizeref08zBefore a0 a1 a2).bind fun y61 => bif (y21.2 == y29.2) then (assizeref03zSameVals y21.1 y29.1).bind fun y73 => bif y73 then bif (y53.2 == y61.2) then (assizeref03zSameVals y53.1 y61.1).bind fun y77 => some y77 else (some false) else (some false) else (some false))

noncomputable def assizelaw08zStateTurns.j3 (x226 : Int) (y268 : List Int × Int) (b275 : Bool) : Option ((List Int × Int × Int) ⊕ Bool) :=
  bif b275 then out (some false) else (some (.inl (y268.1, y268.2, w64 (x226 + 1))))
noncomputable def assizelaw08zStateTurns.s6 (a0 : Int) (a1 : List Int) (a2 : List Int) : (List Int × Int) → Option ((List Int × Int) ⊕ ((List Int × Int × Int) ⊕ Bool))
  | (l465, x468) => bif decide (x468 < (a2.length : Int)) then must (0 ≤ x468 ∧ x468 < (a2.length : Int)) ((state_Apply a0 l465 (idx a2 x468)).bind fun y497 => bif (y497.2 != 0) then out (out (some false)) else (some (.inl (y497.1, w64 (x468 + 1))))) else ((assizeref03zSameVals l465 a1).bind fun y504 => out (out (some y504)))
noncomputable def assizelaw08zStateTurns.j5 (a0 : Int) (a1 : List Int) (a2 : List Int) (y306 : List Int × Bool) (b314 : Bool) : Option ((List Int × Int × Int) ⊕ Bool) :=
  bif b314 then out (some ((y306.1.length : Int) == 0)) else ((state_Check a0 y306.1).bind fun y322 => bif (y322 != 0) then out (some false) else (iter (assizelaw08zStateTurns.s6 a0 a1 a2) (y306.1, 0)))
noncomputable def assizelaw08zStateTurns.j4 (a0 : Int) (a1 : List Int) (a2 : List Int) (b299 : Bool) : Option ((List Int × Int × Int) ⊕ Bool) :=
  bif b299 then out (some false) else ((state_Before a0 a1 a2).bind fun y306 => bif !y306.2 then assizelaw08zStateTurns.j5 a0 a1 a2 y306 true else (assizelaw08zStateTurns.j5 a0 a1 a2 y306 (a0 == 1)))
noncomputable def assizelaw08zStateTurns.j2 (a0 : Int) (a1 : List Int) (a2 : List Int) (l222 : List Int) (x225 : Int) (x226 : Int) (b231 : Bool) : Option ((List Int × Int × Int) ⊕ Bool) :=
  bif b231 then must (0 ≤ x226 ∧ x226 < (a2.length : Int)) ((state_Apply a0 l222 (idx a2 x226)).bind fun y268 => bif (y268.2 == 0) then (state_Check a0 y268.1).bind fun y279 => assizelaw08zStateTurns.j3 x226 y268 (y279 != 0) else (assizelaw08zStateTurns.j3 x226 y268 false)) else ((state_Fold a0 a2).bind fun y285 => bif (x225 != y285.2) then assizelaw08zStateTurns.j4 a0 a1 a2 true else (bif (x225 == 0) then (assizeref03zSameVals l222 y285.1).bind fun y509 => assizelaw08zStateTurns.j4 a0 a1 a2 (!y509) else (assizelaw08zStateTurns.j4 a0 a1 a2 false)))
noncomputable def assizelaw08zStateTurns.s1 (a0 : Int) (a1 : List Int) (a2 : List Int) : (List Int × Int × Int) → Option ((List Int × Int × Int) ⊕ Bool)
  | (l222, x225, x226) => bif decide (x226 < (a2.length : Int)) then assizelaw08zStateTurns.j2 a0 a1 a2 l222 x225 x226 (x225 == 0) else (assizelaw08zStateTurns.j2 a0 a1 a2 l222 x225 x226 false)
noncomputable def assizelaw08zStateTurns (a0 : Int) (a1 : List Int) (a2 : List Int) : Option Bool :=
  (assizelaw08zalive).bind fun y6 => bif !y6 then some false else ((state_Start a0).bind fun y13 => iter (assizelaw08zStateTurns.s1 a0 a1 a2) (y13.1, y13.2, 0))

noncomputable def assizelaw08zStateOrders.s1 (a0 : Int) (a1 : List Int) : (List Int × Int) → Option ((List Int × Int) ⊕ Bool)
  | (l141, x144) => bif decide (x144 ≥ 0) then must (0 ≤ x144 ∧ x144 < (a1.length : Int)) (must ((l141.length + 1) * 8 ≤ 140737488355328 ∧ l141.length + 1 ≤ 9223372036854775807) (some (.inl (l141 ++ ([idx a1 x144] : List Int), w64 (x144 - 1))))) else ((state_Fold a0 a1).bind fun y172 => (state_Fold a0 l141).bind fun y180 => bif (a0 == 1) then bif (y172.2 == 0) then bif (y180.2 == 0) then bif ((a1.length : Int) == 0) then bif ((y172.1.length : Int) == 0) then out (some true) else (bif ((y172.1.length : Int) == 1) then must (0 ≤ (0 : Int) ∧ (0 : Int) < (y172.1.length : Int)) (must (0 ≤ w64 ((a1.length : Int) - 1) ∧ w64 ((a1.length : Int) - 1) < (a1.length : Int)) (bif (idx y172.1 (0 : Int) == idx a1 (w64 ((a1.length : Int) - 1))) then must (0 ≤ (0 : Int) ∧ (0 : Int) < (y180.1.length : Int)) (must (0 ≤ (0 : Int) ∧ (0 : Int) < (a1.length : Int)) (out (some (idx y180.1 (0 : Int) == idx a1 (0 : Int))))) else (out (some false)))) else (out (some false))) else (bif ((y172.1.length : Int) == 1) then must (0 ≤ (0 : Int) ∧ (0 : Int) < (y172.1.length : Int)) (must (0 ≤ w64 ((a1.length : Int) - 1) ∧ w64 ((a1.length : Int) - 1) < (a1.length : Int)) (bif (idx y172.1 (0 : Int) == idx a1 (w64 ((a1.length : Int) - 1))) then must (0 ≤ (0 : Int) ∧ (0 : Int) < (y180.1.length : Int)) (must (0 ≤ (0 : Int) ∧ (0 : Int) < (a1.length : Int)) (out (some (idx y180.1 (0 : Int) == idx a1 (0 : Int))))) else (out (some false)))) else (out (some false))) else (out (some false)) else (out (some false)) else (bif (a0 == 2) then bif (y172.2 == y180.2) then bif (y172.2 != 0) then out (some true) else ((assizeref03zSameVals y172.1 a1).bind fun y313 => bif y313 then (assizeref03zSameVals y180.1 l141).bind fun y316 => out (some y316) else (out (some false))) else (out (some false)) else (bif ((y172.2 == 0) == (y180.2 == 0)) then (assizeref03zSameVals y172.1 y180.1).bind fun y322 => out (some y322) else (out (some false)))))
noncomputable def assizelaw08zStateOrders (a0 : Int) (a1 : List Int) : Option Bool :=
  (assizelaw08zalive).bind fun y6 => bif !y6 then some false else (iter (assizelaw08zStateOrders.s1 a0 a1) ([], w64 ((a1.length : Int) - 1)))
end Go.Proofs.YtmfihodpbladeaaT
