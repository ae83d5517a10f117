/- The same functions with fuel, for what they answer at fixed inputs. -/
import Derived.Test.YtohaphbogjigcaaTD
import Derived.Test.YtohaphbogjigcaaP
import Derived.Test.YtohaphbogjigcaaTPL
namespace Go.Proofs.YtohaphbogjigcaaT
open Go Go.Proofs Go.Proofs.YtohaphbogjigcaaE
set_option linter.unusedVariables false
set_option linter.unusedSimpArgs false
set_option maxHeartbeats 0
set_option maxRecDepth 4096
namespace Fuel
def iterF {σ Ω : Type} (step : σ → Option (σ ⊕ Ω)) (s : σ) : Option Ω := iterN step 64 s
theorem le_iterF {σ Ω : Type} {f g : σ → Option (σ ⊕ Ω)} {s : σ} (h : ∀ s, Le (f s) (g s)) : Le (iterF f s) (iter g s) := le_iter h
def level_Below (a b : Int) : Option Bool := some (bel a b)
def assizeref13zBelow (a b : Int) : Option Bool := some (bel a b)
def assizelaw13zalive : Option Bool := some true
theorem _root_.Go.Proofs.YtohaphbogjigcaaT.level_Below_le (a b : Int) : Le (Fuel.level_Below a b) (Go.Proofs.YtohaphbogjigcaaT.level_Below a b) := fun r h => (below_is a b).trans h
theorem _root_.Go.Proofs.YtohaphbogjigcaaT.assizeref13zBelow_le (a b : Int) : Le (Fuel.assizeref13zBelow a b) (Go.Proofs.YtohaphbogjigcaaT.assizeref13zBelow a b) := fun r h => (refBelow_is a b).trans h
theorem _root_.Go.Proofs.YtohaphbogjigcaaT.assizelaw13zalive_le : Le Fuel.assizelaw13zalive Go.Proofs.YtohaphbogjigcaaT.assizelaw13zalive := fun r h => alive_is.trans h
noncomputable def level_Under.j2 (x110 : Int) (x128 : Int) : Option ((Int × Int) ⊕ (List Bool)) :=
  some (.inl (x128, w64 (x110 + 1)))
noncomputable def level_Under.j3 (x109 : Int) (x110 : Int) (b137 : Bool) : Option ((Int × Int) ⊕ (List Bool)) :=
  bif b137 then must (0 ≤ x110 ∧ x110 < (far : Int)) (level_Under.j2 x110 (bOr .u16 x109 (sShl .u16 1 x110))) else (level_Under.j2 x110 x109)
noncomputable def level_Under.j5 (x294 : Int) (l312 : List Bool) : Option ((List Bool × Int) ⊕ ((Int × Int) ⊕ (List Bool))) :=
  some (.inl (l312, w64 (x294 + 1)))
noncomputable def level_Under.s4 (x109 : Int) (y201 : List Int) : (List Bool × Int) → Option ((List Bool × Int) ⊕ ((Int × Int) ⊕ (List Bool)))
  | (l291, x294) => bif decide (x294 < 9) then must (0 ≤ x294 ∧ x294 < ((9 : Nat) : Int)) (bif decide (x294 > 0) then must (0 ≤ x294 ∧ x294 < (l291.length : Int)) (level_Under.j5 x294 (l291.set x294.toNat (bAnd .u16 (idx ([idx y201 (0 : Int), idx y201 (1 : Int), idx y201 (2 : Int), idx y201 (3 : Int), idx y201 (4 : Int), idx y201 (5 : Int), idx y201 (6 : Int), idx y201 (7 : Int), idx y201 (8 : Int)] : List Int) x294) x109 != 0))) else (must (0 ≤ x294 ∧ x294 < (l291.length : Int)) (level_Under.j5 x294 (l291.set x294.toNat false)))) else (out (out (some l291)))
noncomputable def level_Under.s1 (a0 : List Bool) : (Int × Int) → Option ((Int × Int) ⊕ (List Bool))
  | (x109, x110) => bif decide (x110 < (a0.length : Int)) then must (0 ≤ x110 ∧ x110 < (a0.length : Int)) (bif idx a0 x110 then level_Under.j3 x109 x110 (decide (x110 > 0)) else (level_Under.j3 x109 x110 false)) else (must (0 ≤ (a0.length : Int) ∧ (a0.length : Int) ≤ 9223372036854775807 ∧ (1 : Int) * (a0.length : Int) ≤ 281474976710656) ((level_below).bind fun y201 => iterF (level_Under.s4 x109 y201) (List.replicate (a0.length : Int).toNat (default : Bool), 0)))
noncomputable def level_Under (a0 : List Bool) : Option (List Bool) :=
  bif ((a0.length : Int) != 9) then some ([] : List Bool) else (iterF (level_Under.s1 a0) (0, 0))
noncomputable def assizeref13zUnder.j3 (x825 : Int) (l849 : List Bool) : Option ((List Bool × Int) ⊕ ((List Bool × Int) ⊕ (List Bool))) :=
  some (.inl (l849, w64 (x825 + 1)))
noncomputable def assizeref13zUnder.s2 (a0 : List Bool) (x584 : Int) : (List Bool × Int) → Option ((List Bool × Int) ⊕ ((List Bool × Int) ⊕ (List Bool)))
  | (l822, x825) => bif decide (x825 ≤ 8) then must (0 ≤ x584 ∧ x584 < (l822.length : Int)) (bif idx l822 x584 then assizeref13zUnder.j3 x825 (l822.set x584.toNat true) else (must (0 ≤ x825 ∧ x825 < (a0.length : Int)) (bif idx a0 x825 then (assizeref13zBelow x584 x825).bind fun y860 => assizeref13zUnder.j3 x825 (l822.set x584.toNat y860) else (assizeref13zUnder.j3 x825 (l822.set x584.toNat false))))) else (out (some (.inl (l822, w64 (x584 + 1)))))
noncomputable def assizeref13zUnder.s1 (a0 : List Bool) : (List Bool × Int) → Option ((List Bool × Int) ⊕ (List Bool))
  | (l581, x584) => bif decide (x584 ≤ 8) then iterF (assizeref13zUnder.s2 a0 x584) (l581, 1) else (out (some l581))
noncomputable def assizeref13zUnder (a0 : List Bool) : Option (List Bool) :=
  bif ((a0.length : Int) != 9) then some ([] : List Bool) else (must (0 ≤ (9 : Int) ∧ (9 : Int) ≤ 9223372036854775807 ∧ (1 : Int) * (9 : Int) ≤ 281474976710656) (iterF (assizeref13zUnder.s1 a0) (List.replicate (9 : Int).toNat (default : Bool), 1)))
noncomputable def assizeref06zSameBools.s1 (a0 : List Bool) (a1 : List Bool) : Int → Option (Int ⊕ Bool)
  | x84 => bif decide (x84 < (a0.length : Int)) then must (0 ≤ x84 ∧ x84 < (a0.length : Int)) (must (0 ≤ x84 ∧ x84 < (a1.length : Int)) (bif (idx a0 x84 != idx a1 x84) then out (some false) else (some (.inl (w64 (x84 + 1)))))) else (out (some true))
noncomputable def assizeref06zSameBools (a0 : List Bool) (a1 : List Bool) : Option Bool :=
  bif ((a0.length : Int) != (a1.length : Int)) then some false else (iterF (assizeref06zSameBools.s1 a0 a1) 0)
noncomputable def level_Closed.j2 (x98 : Int) (b123 : Bool) : Option (Int ⊕ Bool) :=
  bif b123 then out (some false) else (some (.inl (w64 (x98 + 1))))
noncomputable def level_Closed.s1 (a0 : List Bool) (y5 : List Bool) : Int → Option (Int ⊕ Bool)
  | x98 => bif decide (x98 < (y5.length : Int)) then bif decide (x98 > 0) then must (0 ≤ x98 ∧ x98 < (y5.length : Int)) (must (0 ≤ x98 ∧ x98 < (a0.length : Int)) (level_Closed.j2 x98 (idx y5 x98 != idx a0 x98))) else (level_Closed.j2 x98 false) else (out (some (decide ((y5.length : Int) > 0))))
noncomputable def level_Closed (a0 : List Bool) : Option Bool :=
  (level_Under a0).bind fun y5 => iterF (level_Closed.s1 a0 y5) 0
noncomputable def assizeref13zClosed.j3 (x481 : Int) (b512 : Bool) : Option (Int ⊕ (Int ⊕ Bool)) :=
  bif b512 then out (out (some false)) else (some (.inl (w64 (x481 + 1))))
noncomputable def assizeref13zClosed.s2 (a0 : List Bool) (x334 : Int) : Int → Option (Int ⊕ (Int ⊕ Bool))
  | x481 => bif decide (x481 ≤ 8) then must (0 ≤ x481 ∧ x481 < (a0.length : Int)) (bif idx a0 x481 then must (0 ≤ x334 ∧ x334 < (a0.length : Int)) (bif !(idx a0 x334) then (assizeref13zBelow x334 x481).bind fun y521 => assizeref13zClosed.j3 x481 y521 else (assizeref13zClosed.j3 x481 false)) else (assizeref13zClosed.j3 x481 false)) else (out (some (.inl (w64 (x334 + 1)))))
noncomputable def assizeref13zClosed.s1 (a0 : List Bool) : Int → Option (Int ⊕ Bool)
  | x334 => bif decide (x334 ≤ 8) then iterF (assizeref13zClosed.s2 a0 x334) 1 else (out (some true))
noncomputable def assizeref13zClosed (a0 : List Bool) : Option Bool :=
  bif ((a0.length : Int) != 9) then some false else (iterF (assizeref13zClosed.s1 a0) 1)
noncomputable def assizelaw13zLevelMarks (a0 : List Bool) : Option Bool :=
  (assizelaw13zalive).bind fun y6 => bif !y6 then some false else (must ((0 + a0.length) * 1 ≤ 140737488355328 ∧ 0 + a0.length ≤ 9223372036854775807) ((level_Under (([] : List Bool) ++ a0)).bind fun y21 => (assizeref13zUnder a0).bind fun y29 => (assizeref06zSameBools y21 y29).bind fun y43 => bif y43 then (level_Closed (([] : List Bool) ++ a0)).bind fun y46 => (assizeref13zClosed a0).bind fun y48 => bif (y46 == y48) then (assizeref06zSameBools (([] : List Bool) ++ a0) a0).bind fun y51 => some y51 else (some false) else (some false)))
noncomputable def assizelaw13zLevelUnder.j4 (x585 : Int) (b603 : Bool) : Option ((Bool × Int) ⊕ (Int ⊕ Bool)) :=
  some (.inl (b603, w64 (x585 + 1)))
noncomputable def assizelaw13zLevelUnder.s3 (a0 : List Bool) (y13 : List Bool) (x396 : Int) : (Bool × Int) → Option ((Bool × Int) ⊕ (Int ⊕ Bool))
  | (b584, x585) => bif decide (x585 ≤ 8) then bif b584 then assizelaw13zLevelUnder.j4 x585 true else (must (0 ≤ x585 ∧ x585 < (a0.length : Int)) (bif idx a0 x585 then (level_Below x396 x585).bind fun y610 => assizelaw13zLevelUnder.j4 x585 y610 else (assizelaw13zLevelUnder.j4 x585 false))) else (must (0 ≤ x396 ∧ x396 < (y13.length : Int)) (bif (idx y13 x396 != b584) then out (out (some false)) else (out (some (.inl (w64 (x396 + 1)))))))
noncomputable def assizelaw13zLevelUnder.s2 (a0 : List Bool) (y13 : List Bool) : Int → Option (Int ⊕ Bool)
  | x396 => bif decide (x396 ≤ 8) then iterF (assizelaw13zLevelUnder.s3 a0 y13 x396) (false, 1) else ((level_Closed a0).bind fun y711 => must (0 ≤ (1 : Int) ∧ (1 : Int) ≤ (y13.length : Int) ∧ (y13.length : Int) ≤ (y13.length : Int)) (must (0 ≤ (1 : Int) ∧ (1 : Int) ≤ (a0.length : Int) ∧ (a0.length : Int) ≤ (a0.length : Int)) ((assizeref06zSameBools (subl y13 (1 : Int) (y13.length : Int)) (subl a0 (1 : Int) (a0.length : Int))).bind fun y723 => out (some (y711 == y723)))))
noncomputable def assizelaw13zLevelUnder.j1 (a0 : List Bool) (y13 : List Bool) (b43 : Bool) : Option Bool :=
  bif b43 then some false else (iterF (assizelaw13zLevelUnder.s2 a0 y13) 1)
noncomputable def assizelaw13zLevelUnder (a0 : List Bool) : Option Bool :=
  (assizelaw13zalive).bind fun y6 => bif !y6 then some false else ((level_Under a0).bind fun y13 => bif ((a0.length : Int) != 9) then bif ((y13.length : Int) == 0) then (level_Closed a0).bind fun y27 => some (!y27) else (some false) else ((level_Closed y13).bind fun y805 => bif !y805 then assizelaw13zLevelUnder.j1 a0 y13 true else (bif ((y13.length : Int) != 9) then assizelaw13zLevelUnder.j1 a0 y13 true else (must (0 ≤ (0 : Int) ∧ (0 : Int) < (y13.length : Int)) (assizelaw13zLevelUnder.j1 a0 y13 (idx y13 (0 : Int)))))))
end Fuel
theorem level_Under.j2zle (x110 : Int) (x128 : Int) : Le (Fuel.level_Under.j2 x110 x128) (level_Under.j2 x110 x128) := by
  simp only [Fuel.level_Under.j2, level_Under.j2]
  repeat' (first | with_reducible exact le_refl _ | with_reducible apply le_must | with_reducible apply le_cond | with_reducible apply le_out | with_reducible refine le_bind ?_ (fun _ => ?_) | with_reducible refine Fuel.le_iterF (fun _ => ?_))

theorem level_Under.j3zle (x109 : Int) (x110 : Int) (b137 : Bool) : Le (Fuel.level_Under.j3 x109 x110 b137) (level_Under.j3 x109 x110 b137) := by
  simp only [Fuel.level_Under.j3, level_Under.j3]
  repeat' (first | with_reducible exact le_refl _ | with_reducible apply level_Under.j2zle | with_reducible apply le_must | with_reducible apply le_cond | with_reducible apply le_out | with_reducible refine le_bind ?_ (fun _ => ?_) | with_reducible refine Fuel.le_iterF (fun _ => ?_))

theorem level_Under.j5zle (x294 : Int) (l312 : List Bool) : Le (Fuel.level_Under.j5 x294 l312) (level_Under.j5 x294 l312) := by
  simp only [Fuel.level_Under.j5, level_Under.j5]
  repeat' (first | with_reducible exact le_refl _ | with_reducible apply le_must | with_reducible apply le_cond | with_reducible apply le_out | with_reducible refine le_bind ?_ (fun _ => ?_) | with_reducible refine Fuel.le_iterF (fun _ => ?_))

theorem level_Under.s4zle (x109 : Int) (y201 : List Int) (s : _) : Le (Fuel.level_Under.s4 x109 y201 s) (level_Under.s4 x109 y201 s) := by
  obtain ⟨l291, x294⟩ := s
  simp only [Fuel.level_Under.s4, level_Under.s4]
  repeat' (first | with_reducible exact le_refl _ | with_reducible apply level_Under.j5zle | with_reducible apply le_must | with_reducible apply le_cond | with_reducible apply le_out | with_reducible refine le_bind ?_ (fun _ => ?_) | with_reducible refine Fuel.le_iterF (fun _ => ?_))

theorem level_Under.s1zle (a0 : List Bool) (s : _) : Le (Fuel.level_Under.s1 a0 s) (level_Under.s1 a0 s) := by
  obtain ⟨x109, x110⟩ := s
  simp only [Fuel.level_Under.s1, level_Under.s1]
  repeat' (first | with_reducible exact le_refl _ | with_reducible apply level_Under.j3zle | with_reducible apply level_Under.s4zle | with_reducible apply le_must | with_reducible apply le_cond | with_reducible apply le_out | with_reducible refine le_bind ?_ (fun _ => ?_) | with_reducible refine Fuel.le_iterF (fun _ => ?_))

theorem level_Under_le (a0 : List Bool) : Le (Fuel.level_Under a0) (level_Under a0) := by
  simp only [Fuel.level_Under, level_Under]
  repeat' (first | with_reducible exact le_refl _ | with_reducible apply level_Under.s1zle | with_reducible apply le_must | with_reducible apply le_cond | with_reducible apply le_out | with_reducible refine le_bind ?_ (fun _ => ?_) | with_reducible refine Fuel.le_iterF (fun _ => ?_))

theorem assizeref13zUnder.j3zle (x825 : Int) (l849 : List Bool) : Le (Fuel.assizeref13zUnder.j3 x825 l849) (assizeref13zUnder.j3 x825 l849) := by
  simp only [Fuel.assizeref13zUnder.j3, assizeref13zUnder.j3]
  repeat' (first | with_reducible exact le_refl _ | with_reducible apply le_must | with_reducible apply le_cond | with_reducible apply le_out | with_reducible refine le_bind ?_ (fun _ => ?_) | with_reducible refine Fuel.le_iterF (fun _ => ?_))

theorem assizeref13zUnder.s2zle (a0 : List Bool) (x584 : Int) (s : _) : Le (Fuel.assizeref13zUnder.s2 a0 x584 s) (assizeref13zUnder.s2 a0 x584 s) := by
  obtain ⟨l822, x825⟩ := s
  simp only [Fuel.assizeref13zUnder.s2, assizeref13zUnder.s2]
  repeat' (first | with_reducible exact le_refl _ | with_reducible apply assizeref13zBelow_le | with_reducible apply assizeref13zUnder.j3zle | with_reducible apply le_must | with_reducible apply le_cond | with_reducible apply le_out | with_reducible refine le_bind ?_ (fun _ => ?_) | with_reducible refine Fuel.le_iterF (fun _ => ?_))

theorem assizeref13zUnder.s1zle (a0 : List Bool) (s : _) : Le (Fuel.assizeref13zUnder.s1 a0 s) (assizeref13zUnder.s1 a0 s) := by
  obtain ⟨l581, x584⟩ := s
  simp only [Fuel.assizeref13zUnder.s1, assizeref13zUnder.s1]
  repeat' (first | with_reducible exact le_refl _ | with_reducible apply assizeref13zUnder.s2zle | with_reducible apply le_must | with_reducible apply le_cond | with_reducible apply le_out | with_reducible refine le_bind ?_ (fun _ => ?_) | with_reducible refine Fuel.le_iterF (fun _ => ?_))

theorem assizeref13zUnder_le (a0 : List Bool) : Le (Fuel.assizeref13zUnder a0) (assizeref13zUnder a0) := by
  simp only [Fuel.assizeref13zUnder, assizeref13zUnder]
  repeat' (first | with_reducible exact le_refl _ | with_reducible apply assizeref13zUnder.s1zle | with_reducible apply le_must | with_reducible apply le_cond | with_reducible apply le_out | with_reducible refine le_bind ?_ (fun _ => ?_) | with_reducible refine Fuel.le_iterF (fun _ => ?_))

theorem assizeref06zSameBools.s1zle (a0 : List Bool) (a1 : List Bool) (s : _) : Le (Fuel.assizeref06zSameBools.s1 a0 a1 s) (assizeref06zSameBools.s1 a0 a1 s) := by
  simp only [Fuel.assizeref06zSameBools.s1, assizeref06zSameBools.s1]
  repeat' (first | with_reducible exact le_refl _ | with_reducible apply le_must | with_reducible apply le_cond | with_reducible apply le_out | with_reducible refine le_bind ?_ (fun _ => ?_) | with_reducible refine Fuel.le_iterF (fun _ => ?_))

theorem assizeref06zSameBools_le (a0 : List Bool) (a1 : List Bool) : Le (Fuel.assizeref06zSameBools a0 a1) (assizeref06zSameBools a0 a1) := by
  simp only [Fuel.assizeref06zSameBools, assizeref06zSameBools]
  repeat' (first | with_reducible exact le_refl _ | with_reducible apply assizeref06zSameBools.s1zle | with_reducible apply le_must | with_reducible apply le_cond | with_reducible apply le_out | with_reducible refine le_bind ?_ (fun _ => ?_) | with_reducible refine Fuel.le_iterF (fun _ => ?_))

theorem level_Closed.j2zle (x98 : Int) (b123 : Bool) : Le (Fuel.level_Closed.j2 x98 b123) (level_Closed.j2 x98 b123) := by
  simp only [Fuel.level_Closed.j2, level_Closed.j2]
  repeat' (first | with_reducible exact le_refl _ | with_reducible apply le_must | with_reducible apply le_cond | with_reducible apply le_out | with_reducible refine le_bind ?_ (fun _ => ?_) | with_reducible refine Fuel.le_iterF (fun _ => ?_))

theorem level_Closed.s1zle (a0 : List Bool) (y5 : List Bool) (s : _) : Le (Fuel.level_Closed.s1 a0 y5 s) (level_Closed.s1 a0 y5 s) := by
  simp only [Fuel.level_Closed.s1, level_Closed.s1]
  repeat' (first | with_reducible exact le_refl _ | with_reducible apply level_Closed.j2zle | with_reducible apply le_must | with_reducible apply le_cond | with_reducible apply le_out | with_reducible refine le_bind ?_ (fun _ => ?_) | with_reducible refine Fuel.le_iterF (fun _ => ?_))

theorem level_Closed_le (a0 : List Bool) : Le (Fuel.level_Closed a0) (level_Closed a0) := by
  simp only [Fuel.level_Closed, level_Closed]
  repeat' (first | with_reducible exact le_refl _ | with_reducible apply level_Under_le | with_reducible apply level_Closed.s1zle | with_reducible apply le_must | with_reducible apply le_cond | with_reducible apply le_out | with_reducible refine le_bind ?_ (fun _ => ?_) | with_reducible refine Fuel.le_iterF (fun _ => ?_))

theorem assizeref13zClosed.j3zle (x481 : Int) (b512 : Bool) : Le (Fuel.assizeref13zClosed.j3 x481 b512) (assizeref13zClosed.j3 x481 b512) := by
  simp only [Fuel.assizeref13zClosed.j3, assizeref13zClosed.j3]
  repeat' (first | with_reducible exact le_refl _ | with_reducible apply le_must | with_reducible apply le_cond | with_reducible apply le_out | with_reducible refine le_bind ?_ (fun _ => ?_) | with_reducible refine Fuel.le_iterF (fun _ => ?_))

theorem assizeref13zClosed.s2zle (a0 : List Bool) (x334 : Int) (s : _) : Le (Fuel.assizeref13zClosed.s2 a0 x334 s) (assizeref13zClosed.s2 a0 x334 s) := by
  simp only [Fuel.assizeref13zClosed.s2, assizeref13zClosed.s2]
  repeat' (first | with_reducible exact le_refl _ | with_reducible apply assizeref13zBelow_le | with_reducible apply assizeref13zClosed.j3zle | with_reducible apply le_must | with_reducible apply le_cond | with_reducible apply le_out | with_reducible refine le_bind ?_ (fun _ => ?_) | with_reducible refine Fuel.le_iterF (fun _ => ?_))

theorem assizeref13zClosed.s1zle (a0 : List Bool) (s : _) : Le (Fuel.assizeref13zClosed.s1 a0 s) (assizeref13zClosed.s1 a0 s) := by
  simp only [Fuel.assizeref13zClosed.s1, assizeref13zClosed.s1]
  repeat' (first | with_reducible exact le_refl _ | with_reducible apply assizeref13zClosed.s2zle | with_reducible apply le_must | with_reducible apply le_cond | with_reducible apply le_out | with_reducible refine le_bind ?_ (fun _ => ?_) | with_reducible refine Fuel.le_iterF (fun _ => ?_))

theorem assizeref13zClosed_le (a0 : List Bool) : Le (Fuel.assizeref13zClosed a0) (assizeref13zClosed a0) := by
  simp only [Fuel.assizeref13zClosed, assizeref13zClosed]
  repeat' (first | with_reducible exact le_refl _ | with_reducible apply assizeref13zClosed.s1zle | with_reducible apply le_must | with_reducible apply le_cond | with_reducible apply le_out | with_reducible refine le_bind ?_ (fun _ => ?_) | with_reducible refine Fuel.le_iterF (fun _ => ?_))

theorem assizelaw13zLevelMarks_le (a0 : List Bool) : Le (Fuel.assizelaw13zLevelMarks a0) (assizelaw13zLevelMarks a0) := by
  simp only [Fuel.assizelaw13zLevelMarks, assizelaw13zLevelMarks]
  repeat' (first | with_reducible exact le_refl _ | with_reducible apply assizelaw13zalive_le | with_reducible apply level_Under_le | with_reducible apply assizeref13zUnder_le | with_reducible apply assizeref06zSameBools_le | with_reducible apply level_Closed_le | with_reducible apply assizeref13zClosed_le | with_reducible apply le_must | with_reducible apply le_cond | with_reducible apply le_out | with_reducible refine le_bind ?_ (fun _ => ?_) | with_reducible refine Fuel.le_iterF (fun _ => ?_))

theorem assizelaw13zLevelUnder.j4zle (x585 : Int) (b603 : Bool) : Le (Fuel.assizelaw13zLevelUnder.j4 x585 b603) (assizelaw13zLevelUnder.j4 x585 b603) := by
  simp only [Fuel.assizelaw13zLevelUnder.j4, assizelaw13zLevelUnder.j4]
  repeat' (first | with_reducible exact le_refl _ | with_reducible apply le_must | with_reducible apply le_cond | with_reducible apply le_out | with_reducible refine le_bind ?_ (fun _ => ?_) | with_reducible refine Fuel.le_iterF (fun _ => ?_))

theorem assizelaw13zLevelUnder.s3zle (a0 : List Bool) (y13 : List Bool) (x396 : Int) (s : _) : Le (Fuel.assizelaw13zLevelUnder.s3 a0 y13 x396 s) (assizelaw13zLevelUnder.s3 a0 y13 x396 s) := by
  obtain ⟨b584, x585⟩ := s
  simp only [Fuel.assizelaw13zLevelUnder.s3, assizelaw13zLevelUnder.s3]
  repeat' (first | with_reducible exact le_refl _ | with_reducible apply level_Below_le | with_reducible apply assizelaw13zLevelUnder.j4zle | with_reducible apply le_must | with_reducible apply le_cond | with_reducible apply le_out | with_reducible refine le_bind ?_ (fun _ => ?_) | with_reducible refine Fuel.le_iterF (fun _ => ?_))

theorem assizelaw13zLevelUnder.s2zle (a0 : List Bool) (y13 : List Bool) (s : _) : Le (Fuel.assizelaw13zLevelUnder.s2 a0 y13 s) (assizelaw13zLevelUnder.s2 a0 y13 s) := by
  simp only [Fuel.assizelaw13zLevelUnder.s2, assizelaw13zLevelUnder.s2]
  repeat' (first | with_reducible exact le_refl _ | with_reducible apply assizeref06zSameBools_le | with_reducible apply level_Closed_le | with_reducible apply assizelaw13zLevelUnder.s3zle | with_reducible apply le_must | with_reducible apply le_cond | with_reducible apply le_out | with_reducible refine le_bind ?_ (fun _ => ?_) | with_reducible refine Fuel.le_iterF (fun _ => ?_))

theorem assizelaw13zLevelUnder.j1zle (a0 : List Bool) (y13 : List Bool) (b43 : Bool) : Le (Fuel.assizelaw13zLevelUnder.j1 a0 y13 b43) (assizelaw13zLevelUnder.j1 a0 y13 b43) := by
  simp only [Fuel.assizelaw13zLevelUnder.j1, assizelaw13zLevelUnder.j1]
  repeat' (first | with_reducible exact le_refl _ | with_reducible apply assizelaw13zLevelUnder.s2zle | with_reducible apply le_must | with_reducible apply le_cond | with_reducible apply le_out | with_reducible refine le_bind ?_ (fun _ => ?_) | with_reducible refine Fuel.le_iterF (fun _ => ?_))

theorem assizelaw13zLevelUnder_le (a0 : List Bool) : Le (Fuel.assizelaw13zLevelUnder a0) (assizelaw13zLevelUnder a0) := by
  simp only [Fuel.assizelaw13zLevelUnder, assizelaw13zLevelUnder]
  repeat' (first | with_reducible exact le_refl _ | with_reducible apply assizelaw13zalive_le | with_reducible apply level_Under_le | with_reducible apply level_Closed_le | with_reducible apply assizelaw13zLevelUnder.j1zle | with_reducible apply le_must | with_reducible apply le_cond | with_reducible apply le_out | with_reducible refine le_bind ?_ (fun _ => ?_) | with_reducible refine Fuel.le_iterF (fun _ => ?_))

open Fuel in
theorem marks9 : ∀ a b c d e f g h i : Bool, Fuel.assizelaw13zLevelMarks [a, b, c, d, e, f, g, h, i] = some true := by decide +kernel
theorem under9 : ∀ a b c d e f g h i : Bool, Fuel.assizelaw13zLevelUnder [a, b, c, d, e, f, g, h, i] = some true := by decide +kernel
end Go.Proofs.YtohaphbogjigcaaT
