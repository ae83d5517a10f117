/- The plain functions, and what values are written as. -/
import Derived.Test.YtohaphbogjigcaaX
namespace Go.Proofs.YtohaphbogjigcaaT
open Go Go.Proofs Go.Proofs.YtohaphbogjigcaaE
set_option linter.unusedVariables false
set_option linter.unusedSimpArgs false
set_option maxHeartbeats 0
set_option maxRecDepth 4096


noncomputable def level_each {σ : Type} (Y : σ → (Int × ByteArray) → Option (Bool × σ)) (s0 : σ) : Option σ :=
  (Y s0 (1, (⟨#[114, 101, 97, 100, 45, 99, 111, 109, 109, 105, 116, 116, 101, 100]⟩ : ByteArray))).bind fun y1 => bif !y1.1 then some y1.2 else ((Y y1.2 (2, (⟨#[99, 117, 114, 115, 111, 114, 45, 115, 116, 97, 98, 108, 101]⟩ : ByteArray))).bind fun y4 => bif !y4.1 then some y4.2 else ((Y y4.2 (3, (⟨#[114, 101, 97, 100, 45, 97, 116, 111, 109, 105, 99]⟩ : ByteArray))).bind fun y7 => bif !y7.1 then some y7.2 else ((Y y7.2 (4, (⟨#[99, 97, 117, 115, 97, 108]⟩ : ByteArray))).bind fun y10 => bif !y10.1 then some y10.2 else ((Y y10.2 (5, (⟨#[112, 114, 101, 102, 105, 120]⟩ : ByteArray))).bind fun y13 => bif !y13.1 then some y13.2 else ((Y y13.2 (6, (⟨#[115, 110, 97, 112, 115, 104, 111, 116]⟩ : ByteArray))).bind fun y16 => bif !y16.1 then some y16.2 else ((Y y16.2 (7, (⟨#[115, 101, 114, 105, 97, 108, 105, 122, 97, 98, 108, 101]⟩ : ByteArray))).bind fun y19 => bif !y19.1 then some y19.2 else ((Y y19.2 (8, (⟨#[115, 116, 114, 105, 99, 116]⟩ : ByteArray))).bind fun y22 => bif !y22.1 then some y22.2 else (some y22.2))))))))

noncomputable def level_Name.y1 (a0 : Int) : (Unit ⊕ ByteArray) → (Int × ByteArray) → Option (Bool × (Unit ⊕ ByteArray))
  | .inl _, (a15, a16) => bif (a15 == a0) then some (false, .inr a16) else (some (true, .inl ()))
  | .inr _, _ => none
noncomputable def level_Name.k1 : (Unit ⊕ ByteArray) → Option (ByteArray × Int)
  | .inl _ => some ((⟨#[]⟩ : ByteArray), 1)
  | .inr s18 => some (s18, 0)
noncomputable def level_Name (a0 : Int) : Option (ByteArray × Int) :=
  (level_each (level_Name.y1 a0) (.inl ())).bind fun o21 => level_Name.k1 o21

noncomputable def level_Parse.y1 (a0 : ByteArray) : (Unit ⊕ Int) → (Int × ByteArray) → Option (Bool × (Unit ⊕ Int))
  | .inl _, (a15, a16) => bif sEq a16 a0 then some (false, .inr a15) else (some (true, .inl ()))
  | .inr _, _ => none
noncomputable def level_Parse.k1 : (Unit ⊕ Int) → Option (Int × Int)
  | .inl _ => some (0, 1)
  | .inr x18 => some (x18, 0)
noncomputable def level_Parse (a0 : ByteArray) : Option (Int × Int) :=
  (level_each (level_Parse.y1 a0) (.inl ())).bind fun o21 => level_Parse.k1 o21

noncomputable def level_right (a0 : Int) : Option Bool :=
  bif decide (a0 ≥ 1) then some (decide (a0 ≤ 8)) else (some false)

def level_Pairs_lit : (List (Int × Int)) := ([((1, 2) : Int × Int), ((2, 6) : Int × Int), ((1, 3) : Int × Int), ((3, 4) : Int × Int), ((4, 5) : Int × Int), ((5, 6) : Int × Int), ((6, 7) : Int × Int), ((7, 8) : Int × Int)] : List (Int × Int))
noncomputable def level_Pairs : Option (List (Int × Int)) :=
  some level_Pairs_lit

noncomputable def level_below : Option (List Int) :=
  (level_Pairs).bind fun y3 => (level_Pairs).bind fun y16 => (level_Pairs).bind fun y29 => (level_Pairs).bind fun y42 => (level_Pairs).bind fun y55 => (level_Pairs).bind fun y68 => (level_Pairs).bind fun y81 => (level_Pairs).bind fun y94 => some ([0, 510, 452, 504, 496, 480, 448, 384, 256] : List Int)

noncomputable def level_Below (a0 : Int) (a1 : Int) : Option Bool :=
  (level_right a0).bind fun y11 => bif y11 then (level_right a1).bind fun y14 => bif y14 then (level_below).bind fun y17 => must (0 ≤ a0 ∧ a0 < ((9 : Nat) : Int)) (must (0 ≤ a1 ∧ a1 < (far : Int)) (some (bAnd .u16 (sShr .u16 (idx ([idx y17 (0 : Int), idx y17 (1 : Int), idx y17 (2 : Int), idx y17 (3 : Int), idx y17 (4 : Int), idx y17 (5 : Int), idx y17 (6 : Int), idx y17 (7 : Int), idx y17 (8 : Int)] : List Int) a0) a1) 1 == 1))) else (some false) else (some false)

noncomputable def assizelaw13zalive : Option Bool :=
  (level_Name 4).bind fun y3 => (level_Parse (⟨#[115, 116, 114, 105, 99, 116]⟩ : ByteArray)).bind fun y7 => bif (y3.2 == 0) then bif sEq y3.1 (⟨#[99, 97, 117, 115, 97, 108]⟩ : ByteArray) then bif (y7.2 == 0) then bif (y7.1 == 8) then (level_Below 2 6).bind fun y27 => bif y27 then (level_Below 2 5).bind fun y30 => bif !y30 then (level_Pairs).bind fun y33 => some ((level_Pairs_lit.length : Int) == 8) else (some false) else (some false) else (some false) else (some false) else (some false) else (some false)

noncomputable def assizeref13zname (a0 : Int) : Option ByteArray :=
  bif (a0 == 1) then some (⟨#[114, 101, 97, 100, 45, 99, 111, 109, 109, 105, 116, 116, 101, 100]⟩ : ByteArray) else (bif (a0 == 2) then some (⟨#[99, 117, 114, 115, 111, 114, 45, 115, 116, 97, 98, 108, 101]⟩ : ByteArray) else (bif (a0 == 3) then some (⟨#[114, 101, 97, 100, 45, 97, 116, 111, 109, 105, 99]⟩ : ByteArray) else (bif (a0 == 4) then some (⟨#[99, 97, 117, 115, 97, 108]⟩ : ByteArray) else (bif (a0 == 5) then some (⟨#[112, 114, 101, 102, 105, 120]⟩ : ByteArray) else (bif (a0 == 6) then some (⟨#[115, 110, 97, 112, 115, 104, 111, 116]⟩ : ByteArray) else (bif (a0 == 7) then some (⟨#[115, 101, 114, 105, 97, 108, 105, 122, 97, 98, 108, 101]⟩ : ByteArray) else (bif (a0 == 8) then some (⟨#[115, 116, 114, 105, 99, 116]⟩ : ByteArray) else (some (⟨#[]⟩ : ByteArray)))))))))

noncomputable def assizeref13zName (a0 : Int) : Option (ByteArray × Int) :=
  (assizeref13zname a0).bind fun y3 => bif sEq y3 (⟨#[]⟩ : ByteArray) then some ((⟨#[]⟩ : ByteArray), 1) else (some (y3, 0))

noncomputable def assizeref13zParse.s1 (a0 : ByteArray) : Int → Option (Int ⊕ (Int × Int))
  | x50 => bif decide (x50 ≤ 8) then (assizeref13zname x50).bind fun y61 => bif sEq y61 a0 then out (some (x50, 0)) else (some (.inl (w64 (x50 + 1)))) else (out (some (0, 1)))
noncomputable def assizeref13zParse (a0 : ByteArray) : Option (Int × Int) :=
  iter (assizeref13zParse.s1 a0) 1

def assizeref13zPairs_lit : (List (Int × Int)) := ([((1, 2) : Int × Int), ((2, 6) : Int × Int), ((1, 3) : Int × Int), ((3, 4) : Int × Int), ((4, 5) : Int × Int), ((5, 6) : Int × Int), ((6, 7) : Int × Int), ((7, 8) : Int × Int)] : List (Int × Int))
noncomputable def assizeref13zPairs : Option (List (Int × Int)) :=
  some assizeref13zPairs_lit

noncomputable def assizeref13zBelow.j3 (x103 : Int) (b125 : Bool) : Option (Int ⊕ Bool) :=
  bif b125 then out (some true) else (some (.inl (w64 (x103 + 1))))
noncomputable def assizeref13zBelow.s2 (rec : Int → Int → Option Bool) (a0 : Int) (a1 : Int) : Int → Option (Int ⊕ Bool)
  | x103 => bif decide (x103 < (assizeref13zPairs_lit.length : Int)) then must (0 ≤ x103 ∧ x103 < (assizeref13zPairs_lit.length : Int)) (bif ((idx assizeref13zPairs_lit x103).1 == a0) then (rec ((idx assizeref13zPairs_lit x103).2) a1).bind fun y131 => assizeref13zBelow.j3 x103 y131 else (assizeref13zBelow.j3 x103 false)) else (out (some false))
noncomputable def assizeref13zBelow.j1 (rec : Int → Int → Option Bool) (a0 : Int) (a1 : Int) (b9 : Bool) : Option Bool :=
  bif b9 then some false else (bif (a0 == a1) then some true else ((assizeref13zPairs).bind fun y18 => iter (assizeref13zBelow.s2 rec a0 a1) 0))
noncomputable def assizeref13zBelow.body (rec : Int → Int → Option Bool) (a0 : Int) (a1 : Int) : Option Bool :=
  bif decide (a0 < 1) then assizeref13zBelow.j1 rec a0 a1 true else (bif decide (a0 > 8) then assizeref13zBelow.j1 rec a0 a1 true else (bif decide (a1 < 1) then assizeref13zBelow.j1 rec a0 a1 true else (assizeref13zBelow.j1 rec a0 a1 (decide (a1 > 8)))))
noncomputable def assizeref13zBelow.fuel : Nat → Int → Int → Option Bool
  | 0 => fun _ _ => none
  | k + 1 => assizeref13zBelow.body (assizeref13zBelow.fuel k)
noncomputable def assizeref13zBelow (a0 : Int) (a1 : Int) : Option Bool := assizeref13zBelow.fuel 64 a0 a1

noncomputable def assizelaw13zLevelTells.j1 (a0 : Int) (y11 : ByteArray × Int) (b43 : Bool) : Option Bool :=
  bif b43 then some false else (bif (y11.2 != 0) then some true else ((level_Parse y11.1).bind fun y50 => bif (y50.2 == 0) then some (y50.1 == a0) else (some false)))
noncomputable def assizelaw13zLevelTells (a0 : Int) (a1 : Int) (a2 : ByteArray) : Option Bool :=
  (assizelaw13zalive).bind fun y6 => bif !y6 then some false else ((level_Name a0).bind fun y11 => (assizeref13zName a0).bind fun y15 => (level_Parse a2).bind fun y19 => (assizeref13zParse a2).bind fun y23 => bif !(sEq y11.1 y15.1) then assizelaw13zLevelTells.j1 a0 y11 true else (bif (y11.2 != y15.2) then assizelaw13zLevelTells.j1 a0 y11 true else (bif (y19.1 != y23.1) then assizelaw13zLevelTells.j1 a0 y11 true else (bif (y19.2 != y23.2) then assizelaw13zLevelTells.j1 a0 y11 true else ((level_Below a0 a1).bind fun y58 => (assizeref13zBelow a0 a1).bind fun y60 => assizelaw13zLevelTells.j1 a0 y11 (y58 != y60))))))

noncomputable def assizelaw13zLevelOrder.j6 (l313 : List (Int × Int)) (x317 : Int) (b381 : Bool) : Option (((List (Int × Int)) × Bool × Int) ⊕ Bool) :=
  must (0 ≤ x317 ∧ x317 < (l313.length : Int)) (some (.inl (l313.set x317.toNat ((0, 0) : Int × Int), b381, w64 (x317 + 1))))
noncomputable def assizelaw13zLevelOrder.j5 (a0 : Int) (a1 : Int) (l313 : List (Int × Int)) (b316 : Bool) (x317 : Int) (b372 : Bool) : Option (((List (Int × Int)) × Bool × Int) ⊕ Bool) :=
  bif b372 then out (some false) else (bif b316 then assizelaw13zLevelOrder.j6 l313 x317 true else (must (0 ≤ x317 ∧ x317 < (l313.length : Int)) (bif ((idx l313 x317).1 == a0) then (level_Below ((idx l313 x317).2) a1).bind fun y389 => assizelaw13zLevelOrder.j6 l313 x317 y389 else (assizelaw13zLevelOrder.j6 l313 x317 false))))
noncomputable def assizelaw13zLevelOrder.s4 (a0 : Int) (a1 : Int) (y15 : Bool) : ((List (Int × Int)) × Bool × Int) → Option (((List (Int × Int)) × Bool × Int) ⊕ Bool)
  | (l313, b316, x317) => bif decide (x317 < (l313.length : Int)) then must (0 ≤ x317 ∧ x317 < (l313.length : Int)) (must (0 ≤ x317 ∧ x317 < (assizeref13zPairs_lit.length : Int)) (bif !(((idx l313 x317).1 == (idx assizeref13zPairs_lit x317).1) && ((idx l313 x317).2 == (idx assizeref13zPairs_lit x317).2)) then assizelaw13zLevelOrder.j5 a0 a1 l313 b316 x317 true else ((level_Below ((idx l313 x317).1) ((idx l313 x317).2)).bind fun y396 => assizelaw13zLevelOrder.j5 a0 a1 l313 b316 x317 (!y396)))) else ((level_Pairs).bind fun y402 => bif (b316 == y15) then bif ((level_Pairs_lit.length : Int) == 8) then must (0 ≤ (0 : Int) ∧ (0 : Int) < (level_Pairs_lit.length : Int)) (must (0 ≤ (0 : Int) ∧ (0 : Int) < (assizeref13zPairs_lit.length : Int)) (out (some (((idx level_Pairs_lit (0 : Int)).1 == (idx assizeref13zPairs_lit (0 : Int)).1) && ((idx level_Pairs_lit (0 : Int)).2 == (idx assizeref13zPairs_lit (0 : Int)).2))))) else (out (some false)) else (out (some false)))
noncomputable def assizelaw13zLevelOrder.j3 (a0 : Int) (a1 : Int) (y15 : Bool) (b74 : Bool) : Option Bool :=
  iter (assizelaw13zLevelOrder.s4 a0 a1 y15) (level_Pairs_lit, b74, 0)
noncomputable def assizelaw13zLevelOrder.j2 (a0 : Int) (a1 : Int) (y15 : Bool) (b45 : Bool) : Option Bool :=
  (level_Below a0 a0).bind fun y52 => bif (y52 != b45) then some false else ((level_Pairs).bind fun y59 => (assizeref13zPairs).bind fun y67 => bif ((level_Pairs_lit.length : Int) != (assizeref13zPairs_lit.length : Int)) then some false else (bif (a0 == a1) then assizelaw13zLevelOrder.j3 a0 a1 y15 b45 else (assizelaw13zLevelOrder.j3 a0 a1 y15 false)))
noncomputable def assizelaw13zLevelOrder.j1 (a0 : Int) (a1 : Int) (y15 : Bool) (b41 : Bool) : Option Bool :=
  bif b41 then some false else (bif decide (a0 ≥ 1) then assizelaw13zLevelOrder.j2 a0 a1 y15 (decide (a0 ≤ 8)) else (assizelaw13zLevelOrder.j2 a0 a1 y15 false))
noncomputable def assizelaw13zLevelOrder (a0 : Int) (a1 : Int) (a2 : Int) : Option Bool :=
  (assizelaw13zalive).bind fun y6 => bif !y6 then some false else ((level_Below a0 a1).bind fun y15 => (level_Below a1 a2).bind fun y17 => (level_Below a0 a2).bind fun y19 => bif y15 then bif y17 then bif !y19 then assizelaw13zLevelOrder.j1 a0 a1 y15 true else ((level_Below a1 a0).bind fun y423 => bif y423 then assizelaw13zLevelOrder.j1 a0 a1 y15 (a0 != a1) else (assizelaw13zLevelOrder.j1 a0 a1 y15 false)) else ((level_Below a1 a0).bind fun y426 => bif y426 then assizelaw13zLevelOrder.j1 a0 a1 y15 (a0 != a1) else (assizelaw13zLevelOrder.j1 a0 a1 y15 false)) else (assizelaw13zLevelOrder.j1 a0 a1 y15 false))

noncomputable def level_Under.j2 (x110 : Int) (x128 : Int) : Option ((Int × Int) ⊕ (List Bool)) :=
  some (.inl (x128, w64 (x110 + 1)))
noncomputable def level_Under.j3 (x109 : Int) (x110 : Int) (b137 : Bool) : Option ((Int × Int) ⊕ (List Bool)) :=
  bif b137 then must (0 ≤ x110 ∧ x110 < (far : Int)) (level_Under.j2 x110 (bOr .u16 x109 (sShl .u16 1 x110))) else (level_Under.j2 x110 x109)
noncomputable def level_Under.j5 (x294 : Int) (l312 : List Bool) : Option ((List Bool × Int) ⊕ ((Int × Int) ⊕ (List Bool))) :=
  some (.inl (l312, w64 (x294 + 1)))
noncomputable def level_Under.s4 (x109 : Int) (y201 : List Int) : (List Bool × Int) → Option ((List Bool × Int) ⊕ ((Int × Int) ⊕ (List Bool)))
  | (l291, x294) => bif decide (x294 < 9) then must (0 ≤ x294 ∧ x294 < ((9 : Nat) : Int)) (bif decide (x294 > 0) then must (0 ≤ x294 ∧ x294 < (l291.length : Int)) (level_Under.j5 x294 (l291.set x294.toNat (bAnd .u16 (idx ([idx y201 (0 : Int), idx y201 (1 : Int), idx y201 (2 : Int), idx y201 (3 : Int), idx y201 (4 : Int), idx y201 (5 : Int), idx y201 (6 : Int), idx y201 (7 : Int), idx y201 (8 : Int)] : List Int) x294) x109 != 0))) else (must (0 ≤ x294 ∧ x294 < (l291.length : Int)) (level_Under.j5 x294 (l291.set x294.toNat false)))) else (out (out (some l291)))
noncomputable def level_Under.s1 (a0 : List Bool) : (Int × Int) → Option ((Int × Int) ⊕ (List Bool))
  | (x109, x110) => bif decide (x110 < (a0.length : Int)) then must (0 ≤ x110 ∧ x110 < (a0.length : Int)) (bif idx a0 x110 then level_Under.j3 x109 x110 (decide (x110 > 0)) else (level_Under.j3 x109 x110 false)) else (must (0 ≤ (a0.length : Int) ∧ (a0.length : Int) ≤ 9223372036854775807 ∧ (1 : Int) * (a0.length : Int) ≤ 281474976710656) ((level_below).bind fun y201 => iter (level_Under.s4 x109 y201) (List.replicate (a0.length : Int).toNat (default : Bool), 0)))
noncomputable def level_Under (a0 : List Bool) : Option (List Bool) :=
  bif ((a0.length : Int) != 9) then some ([] : List Bool) else (iter (level_Under.s1 a0) (0, 0))

noncomputable def assizeref13zUnder.j3 (x825 : Int) (l849 : List Bool) : Option ((List Bool × Int) ⊕ ((List Bool × Int) ⊕ (List Bool))) :=
  some (.inl (l849, w64 (x825 + 1)))
noncomputable def assizeref13zUnder.s2 (a0 : List Bool) (x584 : Int) : (List Bool × Int) → Option ((List Bool × Int) ⊕ ((List Bool × Int) ⊕ (List Bool)))
  | (l822, x825) => bif decide (x825 ≤ 8) then must (0 ≤ x584 ∧ x584 < (l822.length : Int)) (bif idx l822 x584 then assizeref13zUnder.j3 x825 (l822.set x584.toNat true) else (must (0 ≤ x825 ∧ x825 < (a0.length : Int)) (bif idx a0 x825 then (assizeref13zBelow x584 x825).bind fun y860 => assizeref13zUnder.j3 x825 (l822.set x584.toNat y860) else (assizeref13zUnder.j3 x825 (l822.set x584.toNat false))))) else (out (some (.inl (l822, w64 (x584 + 1)))))
noncomputable def assizeref13zUnder.s1 (a0 : List Bool) : (List Bool × Int) → Option ((List Bool × Int) ⊕ (List Bool))
  | (l581, x584) => bif decide (x584 ≤ 8) then iter (assizeref13zUnder.s2 a0 x584) (l581, 1) else (out (some l581))
noncomputable def assizeref13zUnder (a0 : List Bool) : Option (List Bool) :=
  bif ((a0.length : Int) != 9) then some ([] : List Bool) else (must (0 ≤ (9 : Int) ∧ (9 : Int) ≤ 9223372036854775807 ∧ (1 : Int) * (9 : Int) ≤ 281474976710656) (iter (assizeref13zUnder.s1 a0) (List.replicate (9 : Int).toNat (default : Bool), 1)))

noncomputable def assizeref06zSameBools.s1 (a0 : List Bool) (a1 : List Bool) : Int → Option (Int ⊕ Bool)
  | x84 => bif decide (x84 < (a0.length : Int)) then must (0 ≤ x84 ∧ x84 < (a0.length : Int)) (must (0 ≤ x84 ∧ x84 < (a1.length : Int)) (bif (idx a0 x84 != idx a1 x84) then out (some false) else (some (.inl (w64 (x84 + 1)))))) else (out (some true))
noncomputable def assizeref06zSameBools (a0 : List Bool) (a1 : List Bool) : Option Bool :=
  bif ((a0.length : Int) != (a1.length : Int)) then some false else (iter (assizeref06zSameBools.s1 a0 a1) 0)

noncomputable def level_Closed.j2 (x98 : Int) (b123 : Bool) : Option (Int ⊕ Bool) :=
  bif b123 then out (some false) else (some (.inl (w64 (x98 + 1))))
noncomputable def level_Closed.s1 (a0 : List Bool) (y5 : List Bool) : Int → Option (Int ⊕ Bool)
  | x98 => bif decide (x98 < (y5.length : Int)) then bif decide (x98 > 0) then must (0 ≤ x98 ∧ x98 < (y5.length : Int)) (must (0 ≤ x98 ∧ x98 < (a0.length : Int)) (level_Closed.j2 x98 (idx y5 x98 != idx a0 x98))) else (level_Closed.j2 x98 false) else (out (some (decide ((y5.length : Int) > 0))))
noncomputable def level_Closed (a0 : List Bool) : Option Bool :=
  (level_Under a0).bind fun y5 => iter (level_Closed.s1 a0 y5) 0

noncomputable def assizeref13zClosed.j3 (x481 : Int) (b512 : Bool) : Option (Int ⊕ (Int ⊕ Bool)) :=
  bif b512 then out (out (some false)) else (some (.inl (w64 (x481 + 1))))
noncomputable def assizeref13zClosed.s2 (a0 : List Bool) (x334 : Int) : Int → Option (Int ⊕ (Int ⊕ Bool))
  | x481 => bif decide (x481 ≤ 8) then must (0 ≤ x481 ∧ x481 < (a0.length : Int)) (bif idx a0 x481 then must (0 ≤ x334 ∧ x334 < (a0.length : Int)) (bif !(idx a0 x334) then (assizeref13zBelow x334 x481).bind fun y521 => assizeref13zClosed.j3 x481 y521 else (assizeref13zClosed.j3 x481 false)) else (assizeref13zClosed.j3 x481 false)) else (out (some (.inl (w64 (x334 + 1)))))
noncomputable def assizeref13zClosed.s1 (a0 : List Bool) : Int → Option (Int ⊕ Bool)
  | x334 => bif decide (x334 ≤ 8) then iter (assizeref13zClosed.s2 a0 x334) 1 else (out (some true))
noncomputable def assizeref13zClosed (a0 : List Bool) : Option Bool :=
  bif ((a0.length : Int) != 9) then some false else (iter (assizeref13zClosed.s1 a0) 1)

noncomputable def assizelaw13zLevelMarks (a0 : List Bool) : Option Bool :=
  (assizelaw13zalive).bind fun y6 => bif !y6 then some false else (must ((0 + a0.length) * 1 ≤ 140737488355328 ∧ 0 + a0.length ≤ 9223372036854775807) ((level_Under (([] : List Bool) ++ a0)).bind fun y21 => (assizeref13zUnder a0).bind fun y29 => (assizeref06zSameBools y21 y29).bind fun y43 => bif y43 then (level_Closed (([] : List Bool) ++ a0)).bind fun y46 => (assizeref13zClosed a0).bind fun y48 => bif (y46 == y48) then (assizeref06zSameBools (([] : List Bool) ++ a0) a0).bind fun y51 => some y51 else (some false) else (some false)))

noncomputable def assizelaw13zLevelUnder.j4 (x585 : Int) (b603 : Bool) : Option ((Bool × Int) ⊕ (Int ⊕ Bool)) :=
  some (.inl (b603, w64 (x585 + 1)))
noncomputable def assizelaw13zLevelUnder.s3 (a0 : List Bool) (y13 : List Bool) (x396 : Int) : (Bool × Int) → Option ((Bool × Int) ⊕ (Int ⊕ Bool))
  | (b584, x585) => bif decide (x585 ≤ 8) then bif b584 then assizelaw13zLevelUnder.j4 x585 true else (must (0 ≤ x585 ∧ x585 < (a0.length : Int)) (bif idx a0 x585 then (level_Below x396 x585).bind fun y610 => assizelaw13zLevelUnder.j4 x585 y610 else (assizelaw13zLevelUnder.j4 x585 false))) else (must (0 ≤ x396 ∧ x396 < (y13.length : Int)) (bif (idx y13 x396 != b584) then out (out (some false)) else (out (some (.inl (w64 (x396 + 1)))))))
noncomputable def assizelaw13zLevelUnder.s2 (a0 : List Bool) (y13 : List Bool) : Int → Option (Int ⊕ Bool)
  | x396 => bif decide (x396 ≤ 8) then iter (assizelaw13zLevelUnder.s3 a0 y13 x396) (false, 1) else ((level_Closed a0).bind fun y711 => must (0 ≤ (1 : Int) ∧ (1 : Int) ≤ (y13.length : Int) ∧ (y13.length : Int) ≤ (y13.length : Int)) (must (0 ≤ (1 : Int) ∧ (1 : Int) ≤ (a0.length : Int) ∧ (a0.length : Int) ≤ (a0.length : Int)) ((assizeref06zSameBools (subl y13 (1 : Int) (y13.length : Int)) (subl a0 (1 : Int) (a0.length : Int))).bind fun y723 => out (some (y711 == y723)))))
noncomputable def assizelaw13zLevelUnder.j1 (a0 : List Bool) (y13 : List Bool) (b43 : Bool) : Option Bool :=
  bif b43 then some false else (iter (assizelaw13zLevelUnder.s2 a0 y13) 1)
noncomputable def assizelaw13zLevelUnder (a0 : List Bool) : Option Bool :=
  (assizelaw13zalive).bind fun y6 => bif !y6 then some false else ((level_Under a0).bind fun y13 => bif ((a0.length : Int) != 9) then bif ((y13.length : Int) == 0) then (level_Closed a0).bind fun y27 => some (!y27) else (some false) else ((level_Closed y13).bind fun y805 => bif !y805 then assizelaw13zLevelUnder.j1 a0 y13 true else (bif ((y13.length : Int) != 9) then assizelaw13zLevelUnder.j1 a0 y13 true else (must (0 ≤ (0 : Int) ∧ (0 : Int) < (y13.length : Int)) (assizelaw13zLevelUnder.j1 a0 y13 (idx y13 (0 : Int)))))))
end Go.Proofs.YtohaphbogjigcaaT
