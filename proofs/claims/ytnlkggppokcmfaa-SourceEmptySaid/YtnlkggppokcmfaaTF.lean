/- The same functions with fuel, for what they answer at fixed inputs. -/
import Derived.Test.YtnlkggppokcmfaaTD
import Derived.Test.YtnlkggppokcmfaaP
namespace Go.Proofs.YtnlkggppokcmfaaT
open Go Go.Proofs Go.Proofs.YtnlkggppokcmfaaE
set_option linter.unusedVariables false
set_option linter.unusedSimpArgs false
set_option maxHeartbeats 0
set_option maxRecDepth 4096
namespace Fuel
def iterF {σ Ω : Type} (step : σ → Option (σ ⊕ Ω)) (s : σ) : Option Ω := iterN step 4096 s
theorem le_iterF {σ Ω : Type} {f g : σ → Option (σ ⊕ Ω)} {s : σ} (h : ∀ s, Le (f s) (g s)) : Le (iterF f s) (iter g s) := le_iter h
noncomputable def slices_Index_string.s1 (a0 : List ByteArray) (a1 : ByteArray) : Int → Option (Int ⊕ Int)
  | x58 => bif decide (x58 < (a0.length : Int)) then must (0 ≤ x58 ∧ x58 < (a0.length : Int)) (bif sEq a1 (idx a0 x58) then out (some x58) else (some (.inl (w64 (x58 + 1))))) else (out (some (-1)))
noncomputable def slices_Index_string (a0 : List ByteArray) (a1 : ByteArray) : Option Int :=
  iterF (slices_Index_string.s1 a0 a1) 0
noncomputable def slices_Contains_string (a0 : List ByteArray) (a1 : ByteArray) : Option Bool :=
  (slices_Index_string a0 a1).bind fun y3 => some (decide (y3 ≥ 0))
noncomputable def index_newLedger : Option IndexLedger :=
  some (⟨([] : List ByteArray), ([] : List (ByteArray × Int)), ([] : List Int), ([] : List (IndexFact × Unit)), ([] : List (ByteArray × (List Int)))⟩ : IndexLedger)
noncomputable def wire_shape (a0 : Int) : Option (Int × Int) :=
  bif (a0 == 5) then some (0, 1) else (bif (a0 == 8) then some (1, 1) else (some (0, 64)))
noncomputable def wire_sound.j5 (a0 : Call) (x130 : Int) (b135 : Bool) : Option (Int ⊕ Bool) :=
  bif b135 then must (0 ≤ w64 (x130 - 1) ∧ w64 (x130 - 1) < (a0.Vals.length : Int)) (must (0 ≤ x130 ∧ x130 < (a0.Vals.length : Int)) (bif decide (idx a0.Vals (w64 (x130 - 1)) ≥ idx a0.Vals x130) then out (some false) else (some (.inl (w64 (x130 + 1)))))) else (out (some true))
noncomputable def wire_sound.s4 (a0 : Call) : Int → Option (Int ⊕ Bool)
  | x130 => bif (a0.Kind == 7) then wire_sound.j5 a0 x130 (decide (x130 < (a0.Vals.length : Int))) else (wire_sound.j5 a0 x130 false)
noncomputable def wire_sound.j3 (a0 : Call) (b46 : Bool) : Option Bool :=
  bif b46 then some false else (iterF (wire_sound.s4 a0) 1)
noncomputable def wire_sound.j2 (a0 : Call) (b33 : Bool) : Option Bool :=
  bif b33 then some false else (bif !a0.Got then some ((a0.Vals.length : Int) == 0) else ((wire_shape a0.Kind).bind fun y40 => bif decide ((a0.Vals.length : Int) < y40.1) then wire_sound.j3 a0 true else (wire_sound.j3 a0 (decide ((a0.Vals.length : Int) > y40.2)))))
noncomputable def wire_sound.j1 (a0 : Call) (a1 : Int) (b11 : Bool) : Option Bool :=
  bif b11 then some false else (bif decide (a0.Kind ≤ 4) then bif !a0.Got then bif ((a0.Vals.length : Int) == 0) then bif (a0.Kind != 4) then some true else (bif decide ((-1048576) ≤ a0.Arg) then some (decide (a0.Arg ≤ 1048576)) else (some false)) else (some false) else (some false) else (bif (a0.Arg != 0) then wire_sound.j2 a0 true else (wire_sound.j2 a0 (a0.Got != (a1 == 1)))))
noncomputable def wire_sound (a0 : Call) (a1 : Int) : Option Bool :=
  bif decide (a0.Kind < 1) then wire_sound.j1 a0 a1 true else (bif decide (a0.Kind > 8) then wire_sound.j1 a0 a1 true else (bif sEq a0.Key (⟨#[]⟩ : ByteArray) then wire_sound.j1 a0 a1 true else (wire_sound.j1 a0 a1 (decide ((a0.Key.size : Int) > 32)))))
noncomputable def wire_Check_1 (a0 : Call) (a1 : Event) : Option Bool :=
  (wire_sound a0 a1.Kind).bind fun y5 => some (!y5)
noncomputable def slices_IndexFunc_Call_wire_Check_1.s1 (a0 : List Call) (a1c0 : Event) : Int → Option (Int ⊕ Int)
  | x130 => bif decide (x130 < (a0.length : Int)) then must (0 ≤ x130 ∧ x130 < (a0.length : Int)) ((wire_Check_1 (idx a0 x130) a1c0).bind fun y181 => bif y181 then out (some x130) else (some (.inl (w64 (x130 + 1))))) else (out (some (-1)))
noncomputable def slices_IndexFunc_Call_wire_Check_1 (a0 : List Call) (a1c0 : Event) : Option Int :=
  iterF (slices_IndexFunc_Call_wire_Check_1.s1 a0 a1c0) 0
noncomputable def slices_ContainsFunc_Call_wire_Check_1 (a0 : List Call) (a1c0 : Event) : Option Bool :=
  (slices_IndexFunc_Call_wire_Check_1 a0 a1c0).bind fun y3 => some (decide (y3 ≥ 0))
noncomputable def wire_Check.j2 (a0 : List Event) (x172 : Int) (b239 : Bool) : Option (Int ⊕ Int) :=
  bif b239 then out (some 1) else ((slices_ContainsFunc_Call_wire_Check_1 ((idx a0 x172).Calls) (idx a0 x172)).bind fun y244 => bif y244 then out (some 1) else (some (.inl (w64 (x172 + 1)))))
noncomputable def wire_Check.s1 (a0 : List Event) : Int → Option (Int ⊕ Int)
  | x172 => bif decide (x172 < (a0.length : Int)) then must (0 ≤ x172 ∧ x172 < (a0.length : Int)) (bif decide ((idx a0 x172).Kind < 0) then wire_Check.j2 a0 x172 true else (bif decide ((idx a0 x172).Kind > 3) then wire_Check.j2 a0 x172 true else (wire_Check.j2 a0 x172 (decide ((((idx a0 x172).Calls).length : Int) > 16))))) else (out (some 0))
noncomputable def wire_Check (a0 : List Event) : Option Int :=
  bif decide ((a0.length : Int) > 256) then some 1 else (iterF (wire_Check.s1 a0) 0)
noncomputable def index_calls.j2 (a0 : History) (a1 : Txn) (l421 : List Call) (x424 : Int) : Option ((List Call × Int) ⊕ (Event × Bool)) :=
  some (.inl (l421 ++ ([(⟨(idx a1.Ops x424).Kind, idx a0.Keys ((idx a1.Ops x424).Key), (idx a1.Ops x424).Arg, (idx a1.Ops x424).Got, (idx a1.Ops x424).Vals⟩ : Call)] : List Call), w64 (x424 + 1)))
noncomputable def index_calls.j3 (a0 : History) (a1 : Txn) (l421 : List Call) (x424 : Int) (b538 : Bool) : Option ((List Call × Int) ⊕ (Event × Bool)) :=
  bif b538 then out (some ((⟨0, a1.Status, l421⟩ : Event), false)) else (must (0 ≤ (idx a1.Ops x424).Key ∧ (idx a1.Ops x424).Key < (a0.Keys.length : Int)) (must (((l421.length + 1) + (l421.length + 1) / 4 + 192) * 64 ≤ 281474976710656 ∧ l421.length + 1 ≤ 9223372036854775807) (index_calls.j2 a0 a1 l421 x424)))
noncomputable def index_calls.s1 (a0 : History) (a1 : Txn) : (List Call × Int) → Option ((List Call × Int) ⊕ (Event × Bool))
  | (l421, x424) => bif decide (x424 < (a1.Ops.length : Int)) then must (0 ≤ x424 ∧ x424 < (a1.Ops.length : Int)) (bif decide ((idx a1.Ops x424).Key < 0) then index_calls.j3 a0 a1 l421 x424 true else (index_calls.j3 a0 a1 l421 x424 (decide ((idx a1.Ops x424).Key ≥ (a0.Keys.length : Int))))) else ((wire_Check ([(⟨0, a1.Status, l421⟩ : Event)] : List Event)).bind fun y574 => out (some ((⟨0, a1.Status, l421⟩ : Event), (y574 == 0))))
noncomputable def index_calls (a0 : History) (a1 : Txn) : Option (Event × Bool) :=
  iterF (index_calls.s1 a0 a1) ([], 0)
noncomputable def index_placed_1 (a0 : Txn) (a1 : Txn) : Option Bool :=
  bif (a0.Proc == a1.Proc) then bif (a0.To == (-1)) then some true else (some (decide (a0.To ≥ a1.From))) else (some false)
noncomputable def slices_IndexFunc_Txn_index_placed_1.s1 (a0 : List Txn) (a1c0 : Txn) : Int → Option (Int ⊕ Int)
  | x130 => bif decide (x130 < (a0.length : Int)) then must (0 ≤ x130 ∧ x130 < (a0.length : Int)) ((index_placed_1 (idx a0 x130) a1c0).bind fun y181 => bif y181 then out (some x130) else (some (.inl (w64 (x130 + 1))))) else (out (some (-1)))
noncomputable def slices_IndexFunc_Txn_index_placed_1 (a0 : List Txn) (a1c0 : Txn) : Option Int :=
  iterF (slices_IndexFunc_Txn_index_placed_1.s1 a0 a1c0) 0
noncomputable def slices_ContainsFunc_Txn_index_placed_1 (a0 : List Txn) (a1c0 : Txn) : Option Bool :=
  (slices_IndexFunc_Txn_index_placed_1 a0 a1c0).bind fun y3 => some (decide (y3 ≥ 0))
noncomputable def index_placed.j2 (a0 : List Txn) (a1 : Txn) (b46 : Bool) : Option Bool :=
  bif b46 then some false else ((slices_ContainsFunc_Txn_index_placed_1 a0 a1).bind fun y51 => some (!y51))
noncomputable def index_placed.j1 (a0 : List Txn) (a1 : Txn) : Option Bool :=
  bif decide (a1.From < 0) then index_placed.j2 a0 a1 true else (bif decide ((a0.length : Int) > 0) then must (0 ≤ w64 ((a0.length : Int) - 1) ∧ w64 ((a0.length : Int) - 1) < (a0.length : Int)) (index_placed.j2 a0 a1 (decide ((idx a0 (w64 ((a0.length : Int) - 1))).From ≥ a1.From))) else (index_placed.j2 a0 a1 false))
noncomputable def index_placed.j4 (a0 : List Txn) (a1 : Txn) (b72 : Bool) : Option Bool :=
  bif b72 then some false else (index_placed.j1 a0 a1)
noncomputable def index_placed.j3 (a0 : List Txn) (a1 : Txn) (b66 : Bool) : Option Bool :=
  bif b66 then bif decide (a1.To ≤ a1.From) then some false else (index_placed.j1 a0 a1) else (bif (a1.Status == 3) then bif (a1.To != (-1)) then index_placed.j4 a0 a1 (decide (a1.To ≤ a1.From)) else (index_placed.j4 a0 a1 false) else (some false))
noncomputable def index_placed (a0 : List Txn) (a1 : Txn) : Option Bool :=
  bif (a1.Status == 1) then index_placed.j3 a0 a1 (a1.Status == 1) else (index_placed.j3 a0 a1 (a1.Status == 2))
noncomputable def index_typeOf (a0 : Int) : Option Int :=
  some (w64 ((bAnd .i64 (w64 (a0 - 1)) 3) + 1))
noncomputable def index_ledger_enter.j2 (l59 : List ByteArray) (m62 : List (ByteArray × Int)) (l63 : List Int) (m152 : List (IndexFact × Unit)) (m153 : List (ByteArray × (List Int))) : Option (Int × IndexLedger) :=
  some (0, (⟨l59, m62, l63, m152, m153⟩ : IndexLedger))
noncomputable def index_ledger_enter.j4 (a0 : IndexLedger) (a1 : Call) (l59 : List ByteArray) (m62 : List (ByteArray × Int)) (l63 : List Int) : Option (Int × IndexLedger) :=
  bif mhas a0.facts (⟨a1.Key, a1.Arg⟩ : IndexFact) then some (3, (⟨l59, m62, l63, a0.facts, a0.incs⟩ : IndexLedger)) else (index_ledger_enter.j2 l59 m62 l63 (mput a0.facts (⟨a1.Key, a1.Arg⟩ : IndexFact) ()) a0.incs)
noncomputable def index_ledger_enter.j5 (a0 : IndexLedger) (a1 : Call) (l59 : List ByteArray) (m62 : List (ByteArray × Int)) (l63 : List Int) (m196 : List (ByteArray × (List Int))) : Option (Int × IndexLedger) :=
  bif decide (((mat m196 a1.Key).length : Int) > 8) then some (51, (⟨l59, m62, l63, a0.facts, m196⟩ : IndexLedger)) else (index_ledger_enter.j2 l59 m62 l63 a0.facts m196)
noncomputable def index_ledger_enter.j6 (a0 : IndexLedger) (a1 : Call) (a2 : Int) (l59 : List ByteArray) (m62 : List (ByteArray × Int)) (l63 : List Int) (b223 : Bool) : Option (Int × IndexLedger) :=
  bif b223 then must (((((mat a0.incs a1.Key).length) + 1) + (((mat a0.incs a1.Key).length) + 1) / 4 + 192) * 8 ≤ 281474976710656 ∧ ((mat a0.incs a1.Key).length) + 1 ≤ 9223372036854775807) (index_ledger_enter.j5 a0 a1 l59 m62 l63 (mput a0.incs a1.Key ((mat a0.incs a1.Key) ++ ([a2] : List Int)))) else (index_ledger_enter.j5 a0 a1 l59 m62 l63 a0.incs)
noncomputable def index_ledger_enter.j3 (a0 : IndexLedger) (a1 : Call) (a2 : Int) (l59 : List ByteArray) (m62 : List (ByteArray × Int)) (l63 : List Int) (b156 : Bool) : Option (Int × IndexLedger) :=
  bif b156 then index_ledger_enter.j4 a0 a1 l59 m62 l63 else (bif (a1.Kind == 4) then bif (((mat a0.incs a1.Key).length : Int) == 0) then index_ledger_enter.j6 a0 a1 a2 l59 m62 l63 true else (must (0 ≤ w64 (((mat a0.incs a1.Key).length : Int) - 1) ∧ w64 (((mat a0.incs a1.Key).length : Int) - 1) < ((mat a0.incs a1.Key).length : Int)) (index_ledger_enter.j6 a0 a1 a2 l59 m62 l63 (idx (mat a0.incs a1.Key) (w64 (((mat a0.incs a1.Key).length : Int) - 1)) != a2))) else (index_ledger_enter.j2 l59 m62 l63 a0.facts a0.incs))
noncomputable def index_ledger_enter.j1 (a0 : IndexLedger) (a1 : Call) (a2 : Int) (l59 : List ByteArray) (m62 : List (ByteArray × Int)) (l63 : List Int) (x66 : Int) : Option (Int × IndexLedger) :=
  must (0 ≤ x66 ∧ x66 < (l63.length : Int)) ((index_typeOf a1.Kind).bind fun y79 => bif (idx l63 x66 != y79) then some (50, (⟨l59, m62, l63, a0.facts, a0.incs⟩ : IndexLedger)) else (bif (a1.Kind == 2) then index_ledger_enter.j3 a0 a1 a2 l59 m62 l63 (a1.Kind == 2) else (index_ledger_enter.j3 a0 a1 a2 l59 m62 l63 (a1.Kind == 3))))
noncomputable def index_ledger_enter.j7 (a0 : IndexLedger) (a1 : Call) (a2 : Int) : Option (Int × IndexLedger) :=
  (index_typeOf a1.Kind).bind fun y263 => must (((a0.types.length + 1) + (a0.types.length + 1) / 4 + 192) * 8 ≤ 281474976710656 ∧ a0.types.length + 1 ≤ 9223372036854775807) (index_ledger_enter.j1 a0 a1 a2 (a0.keys ++ ([a1.Key] : List ByteArray)) (mput a0.at_ a1.Key (a0.keys.length : Int)) (a0.types ++ ([y263] : List Int)) (a0.keys.length : Int))
noncomputable def index_ledger_enter (a0 : IndexLedger) (a1 : Call) (a2 : Int) : Option (Int × IndexLedger) :=
  bif !(mhas a0.at_ a1.Key) then bif ((a0.keys.length : Int) == 32) then some (2, a0) else (must (((a0.keys.length + 1) + (a0.keys.length + 1) / 4 + 192) * 16 ≤ 281474976710656 ∧ a0.keys.length + 1 ≤ 9223372036854775807) (index_ledger_enter.j7 a0 a1 a2)) else (index_ledger_enter.j1 a0 a1 a2 a0.keys a0.at_ a0.types (mat a0.at_ a1.Key))
noncomputable def index_Check.j3 (x147 : Int) (b193 : Bool) : Option (Int ⊕ Int) :=
  bif b193 then out (some 1) else (some (.inl (w64 (x147 + 1))))
noncomputable def index_Check.s6 (x1922 : Int) (y2316 : Event × Bool) : (List ByteArray × (List (ByteArray × Int)) × List Int × (List (IndexFact × Unit)) × (List (ByteArray × (List Int))) × Int) → Option ((List ByteArray × (List (ByteArray × Int)) × List Int × (List (IndexFact × Unit)) × (List (ByteArray × (List Int))) × Int) ⊕ ((List ByteArray × (List (ByteArray × Int)) × List Int × (List (IndexFact × Unit)) × (List (ByteArray × (List Int))) × Int) ⊕ (Int ⊕ Int)))
  | (l2615, m2618, l2620, m2623, m2625, x2627) => bif decide (x2627 < (y2316.1.Calls.length : Int)) then must (0 ≤ x2627 ∧ x2627 < (y2316.1.Calls.length : Int)) ((index_ledger_enter (⟨l2615, m2618, l2620, m2623, m2625⟩ : IndexLedger) (idx y2316.1.Calls x2627) x1922).bind fun y2719 => bif (y2719.1 != 0) then out (out (out (some 1))) else (some (.inl (y2719.2.keys, y2719.2.at_, y2719.2.types, y2719.2.facts, y2719.2.incs, w64 (x2627 + 1))))) else (out (some (.inl (l2615, m2618, l2620, m2623, m2625, w64 (x1922 + 1)))))
noncomputable def index_Check.j5 (l1910 : List ByteArray) (m1913 : List (ByteArray × Int)) (l1915 : List Int) (m1918 : List (IndexFact × Unit)) (m1920 : List (ByteArray × (List Int))) (x1922 : Int) (y2316 : Event × Bool) (b2339 : Bool) : Option ((List ByteArray × (List (ByteArray × Int)) × List Int × (List (IndexFact × Unit)) × (List (ByteArray × (List Int))) × Int) ⊕ (Int ⊕ Int)) :=
  bif b2339 then out (out (some 1)) else (iterF (index_Check.s6 x1922 y2316) (l1910, m1913, l1915, m1918, m1920, 0))
noncomputable def index_Check.s4 (a0 : History) : (List ByteArray × (List (ByteArray × Int)) × List Int × (List (IndexFact × Unit)) × (List (ByteArray × (List Int))) × Int) → Option ((List ByteArray × (List (ByteArray × Int)) × List Int × (List (IndexFact × Unit)) × (List (ByteArray × (List Int))) × Int) ⊕ (Int ⊕ Int))
  | (l1910, m1913, l1915, m1918, m1920, x1922) => bif decide (x1922 < (a0.Txns.length : Int)) then must (0 ≤ x1922 ∧ x1922 < (a0.Txns.length : Int)) ((index_calls a0 (idx a0.Txns x1922)).bind fun y2316 => bif !y2316.2 then index_Check.j5 l1910 m1913 l1915 m1918 m1920 x1922 y2316 true else (must (0 ≤ (0 : Int) ∧ (0 : Int) ≤ x1922 ∧ x1922 ≤ (a0.Txns.length : Int)) ((index_placed (subl a0.Txns (0 : Int) x1922) (idx a0.Txns x1922)).bind fun y2735 => index_Check.j5 l1910 m1913 l1915 m1918 m1920 x1922 y2316 (!y2735)))) else (out (out (some 0)))
noncomputable def index_Check.s2 (a0 : History) : Int → Option (Int ⊕ Int)
  | x147 => bif decide (x147 < (a0.Keys.length : Int)) then must (0 ≤ x147 ∧ x147 < (a0.Keys.length : Int)) (bif sEq (idx a0.Keys x147) (⟨#[]⟩ : ByteArray) then index_Check.j3 x147 true else (bif decide (((idx a0.Keys x147).size : Int) > 32) then index_Check.j3 x147 true else (must (0 ≤ (0 : Int) ∧ (0 : Int) ≤ x147 ∧ x147 ≤ (a0.Keys.length : Int)) ((slices_Contains_string (subl a0.Keys (0 : Int) x147) (idx a0.Keys x147)).bind fun y203 => index_Check.j3 x147 y203)))) else ((index_newLedger).bind fun y215 => iterF (index_Check.s4 a0) (y215.keys, y215.at_, y215.types, y215.facts, y215.incs, 0))
noncomputable def index_Check.j1 (a0 : History) (b7 : Bool) : Option Int :=
  bif b7 then some 1 else (iterF (index_Check.s2 a0) 0)
noncomputable def index_Check (a0 : History) : Option Int :=
  bif decide ((a0.Keys.length : Int) > 32) then index_Check.j1 a0 true else (index_Check.j1 a0 (decide ((a0.Txns.length : Int) > 32)))
noncomputable def slices_Clone_int64 (a0 : List Int) : Option (List Int) :=
  must (a0.length * 8 ≤ 140737488355328) (some a0)
noncomputable def state_of (a0 : Int) : Option Int := none
noncomputable def state_register_sound (a0 : Unit) (a1 : List Int) : Option Bool := none
noncomputable def state_list_sound (a0 : Unit) (a1 : List Int) : Option Bool := none
noncomputable def state_set_sound (a0 : Unit) (a1 : List Int) : Option Bool := none
noncomputable def state_counter_sound (a0 : Unit) (a1 : List Int) : Option Bool := none
noncomputable def state_Check (a0 : Int) (a1 : List Int) : Option Int := none
noncomputable def state_register_without (a0 : Unit) (a1 : List Int) (a2 : List Int) : Option (List Int × Bool) := none
noncomputable def slices_Equal_int64.s1 (a0 : List Int) (a1 : List Int) : Int → Option (Int ⊕ Bool)
  | x84 => bif decide (x84 < (a0.length : Int)) then must (0 ≤ x84 ∧ x84 < (a0.length : Int)) (must (0 ≤ x84 ∧ x84 < (a1.length : Int)) (bif (idx a0 x84 != idx a1 x84) then out (some false) else (some (.inl (w64 (x84 + 1)))))) else (out (some true))
noncomputable def slices_Equal_int64 (a0 : List Int) (a1 : List Int) : Option Bool :=
  bif ((a0.length : Int) != (a1.length : Int)) then some false else (iterF (slices_Equal_int64.s1 a0 a1) 0)
noncomputable def state_list_without (a0 : Unit) (a1 : List Int) (a2 : List Int) : Option (List Int × Bool) := none
noncomputable def cmp_isNaN_int64 (a0 : Int) : Option Bool := none
noncomputable def cmp_Less_int64 (a0 : Int) (a1 : Int) : Option Bool := none
noncomputable def slices_isNaN_int64 (a0 : Int) : Option Bool := none
noncomputable def slices_BinarySearch_int64 (a0 : List Int) (a1 : Int) : Option (Int × Bool) := none
noncomputable def slices_Delete_int64 (a0 : List Int) (a1 a2 : Int) : Option (List Int) := none
noncomputable def state_set_without (a0 : Unit) (a1 : List Int) (a2 : List Int) : Option (List Int × Bool) := none
noncomputable def state_counter_without (a0 : Unit) (a1 : List Int) (a2 : List Int) : Option (List Int × Bool) := none
noncomputable def state_Before (a0 : Int) (a1 : List Int) (a2 : List Int) : Option (List Int × Bool) := none
noncomputable def local_found_look.j2 (x716 : Int) (l938 : List Ask) (l941 : List Spot) (m944 : List (Int × (List Int))) : Option ((List Ask × List Spot × (List (Int × (List Int))) × Int) ⊕ LocalFound) :=
  some (.inl (l938, l941, m944, w64 (x716 + 1)))
noncomputable def local_found_look.j3 (a1 : History) (a2 : Int) (l709 : List Ask) (l712 : List Spot) (m715 : List (Int × (List Int))) (x716 : Int) (l1129 : List Int) (b1132 : Bool) : Option ((List Ask × List Spot × (List (Int × (List Int))) × Int) ⊕ LocalFound) :=
  bif !b1132 then must (((l712.length + 1) + (l712.length + 1) / 4 + 192) * 16 ≤ 281474976710656 ∧ l712.length + 1 ≤ 9223372036854775807) (local_found_look.j2 x716 l709 (l712 ++ ([(⟨a2, x716⟩ : Spot)] : List Spot)) m715) else (must (((l709.length + 1) + (l709.length + 1) / 4 + 192) * 48 ≤ 281474976710656 ∧ l709.length + 1 ≤ 9223372036854775807) (local_found_look.j2 x716 (l709 ++ ([(⟨a2, x716, (idx ((idx a1.Txns a2).Ops) x716).Key, l1129⟩ : Ask)] : List Ask)) l712 m715))
noncomputable def local_found_look.j4 (a1 : History) (a2 : Int) (l709 : List Ask) (l712 : List Spot) (m715 : List (Int × (List Int))) (x716 : Int) (y1187 : List Int × Bool) (b1192 : Bool) : Option ((List Ask × List Spot × (List (Int × (List Int))) × Int) ⊕ LocalFound) :=
  bif b1192 then local_found_look.j2 x716 l709 l712 m715 else (local_found_look.j3 a1 a2 l709 l712 m715 x716 y1187.1 y1187.2)
noncomputable def local_found_look.s1 (a1 : History) (a2 : Int) : (List Ask × List Spot × (List (Int × (List Int))) × Int) → Option ((List Ask × List Spot × (List (Int × (List Int))) × Int) ⊕ LocalFound)
  | (l709, l712, m715, x716) => bif decide (x716 < (((idx a1.Txns a2).Ops).length : Int)) then must (0 ≤ x716 ∧ x716 < (((idx a1.Txns a2).Ops).length : Int)) (bif decide ((idx ((idx a1.Txns a2).Ops) x716).Kind ≤ 4) then must (((((mat m715 ((idx ((idx a1.Txns a2).Ops) x716).Key)).length) + 1) + (((mat m715 ((idx ((idx a1.Txns a2).Ops) x716).Key)).length) + 1) / 4 + 192) * 8 ≤ 281474976710656 ∧ ((mat m715 ((idx ((idx a1.Txns a2).Ops) x716).Key)).length) + 1 ≤ 9223372036854775807) (local_found_look.j2 x716 l709 l712 (mput m715 ((idx ((idx a1.Txns a2).Ops) x716).Key) ((mat m715 ((idx ((idx a1.Txns a2).Ops) x716).Key)) ++ ([(idx ((idx a1.Txns a2).Ops) x716).Arg] : List Int)))) else ((slices_Clone_int64 ((idx ((idx a1.Txns a2).Ops) x716).Vals)).bind fun y1112 => bif decide (((mat m715 ((idx ((idx a1.Txns a2).Ops) x716).Key)).length : Int) > 0) then (state_Before (w64 (((idx ((idx a1.Txns a2).Ops) x716).Kind) - 4)) ((idx ((idx a1.Txns a2).Ops) x716).Vals) (mat m715 ((idx ((idx a1.Txns a2).Ops) x716).Key))).bind fun y1187 => bif y1187.2 then local_found_look.j4 a1 a2 l709 l712 m715 x716 y1187 ((idx ((idx a1.Txns a2).Ops) x716).Kind == 5) else (local_found_look.j4 a1 a2 l709 l712 m715 x716 y1187 false) else (local_found_look.j3 a1 a2 l709 l712 m715 x716 y1112 true))) else (out (some (⟨l709, l712⟩ : LocalFound)))
noncomputable def local_found_look (a0 : LocalFound) (a1 : History) (a2 : Int) : Option LocalFound :=
  must (0 ≤ a2 ∧ a2 < (a1.Txns.length : Int)) (bif ((idx a1.Txns a2).Status != 1) then some a0 else (iterF (local_found_look.s1 a1 a2) (a0.asks, a0.bad, [], 0)))
noncomputable def local_all.s1 (a0 : History) : (List Ask × List Spot × Int) → Option ((List Ask × List Spot × Int) ⊕ (LocalFound × Int))
  | (l230, l233, x236) => bif decide (x236 < (a0.Txns.length : Int)) then (local_found_look (⟨l230, l233⟩ : LocalFound) a0 x236).bind fun y266 => some (.inl (y266.asks, y266.bad, w64 (x236 + 1))) else (out (some ((⟨l230, l233⟩ : LocalFound), 0)))
noncomputable def local_all (a0 : History) : Option (LocalFound × Int) :=
  (index_Check a0).bind fun y12 => bif (y12 != 0) then some ((⟨([] : List Ask), ([] : List Spot)⟩ : LocalFound), y12) else (iterF (local_all.s1 a0) ([], [], 0))
noncomputable def local_Asks (a0 : History) : Option (List Ask × Int) :=
  (local_all a0).bind fun y10 => some (y10.1.asks, y10.2)
noncomputable def index_Type.s2 (a0 : History) (a1 : Int) (x532 : Int) : Int → Option (Int ⊕ (Int ⊕ Int))
  | x767 => bif decide (x767 < (((idx a0.Txns x532).Ops).length : Int)) then must (0 ≤ x767 ∧ x767 < (((idx a0.Txns x532).Ops).length : Int)) (bif ((idx ((idx a0.Txns x532).Ops) x767).Key == a1) then (index_typeOf ((idx ((idx a0.Txns x532).Ops) x767).Kind)).bind fun y823 => out (out (some y823)) else (some (.inl (w64 (x767 + 1))))) else (out (some (.inl (w64 (x532 + 1)))))
noncomputable def index_Type.s1 (a0 : History) (a1 : Int) : Int → Option (Int ⊕ Int)
  | x532 => bif decide (x532 < (a0.Txns.length : Int)) then must (0 ≤ x532 ∧ x532 < (a0.Txns.length : Int)) (iterF (index_Type.s2 a0 a1 x532) 0) else (out (some 0))
noncomputable def index_Type (a0 : History) (a1 : Int) : Option Int :=
  (index_Check a0).bind fun y8 => bif (y8 != 0) then some 0 else (iterF (index_Type.s1 a0 a1) 0)
noncomputable def index_wrote.j2 (x258 : Int) (l302 : List Int) : Option ((List Int × Int) ⊕ (List Int)) :=
  some (.inl (l302, w64 (x258 + 1)))
noncomputable def index_wrote.j3 (a0 : Txn) (l255 : List Int) (x258 : Int) (b329 : Bool) : Option ((List Int × Int) ⊕ (List Int)) :=
  bif b329 then must (((l255.length + 1) + (l255.length + 1) / 4 + 192) * 8 ≤ 281474976710656 ∧ l255.length + 1 ≤ 9223372036854775807) (index_wrote.j2 x258 (l255 ++ ([(idx a0.Ops x258).Arg] : List Int))) else (index_wrote.j2 x258 l255)
noncomputable def index_wrote.s1 (a0 : Txn) (a1 : Int) : (List Int × Int) → Option ((List Int × Int) ⊕ (List Int))
  | (l255, x258) => bif decide (x258 < (a0.Ops.length : Int)) then must (0 ≤ x258 ∧ x258 < (a0.Ops.length : Int)) (bif ((idx a0.Ops x258).Key == a1) then index_wrote.j3 a0 l255 x258 (decide ((idx a0.Ops x258).Kind ≤ 4)) else (index_wrote.j3 a0 l255 x258 false)) else (out (some l255))
noncomputable def index_wrote (a0 : Txn) (a1 : Int) : Option (List Int) :=
  iterF (index_wrote.s1 a0 a1) ([], 0)
noncomputable def index_Writers.j2 (x298 : Int) (l350 : List Int) : Option ((List Int × Int) ⊕ (List Int)) :=
  some (.inl (l350, w64 (x298 + 1)))
noncomputable def index_Writers.j3 (l295 : List Int) (x298 : Int) (b381 : Bool) : Option ((List Int × Int) ⊕ (List Int)) :=
  bif b381 then must (((l295.length + 1) + (l295.length + 1) / 4 + 192) * 8 ≤ 281474976710656 ∧ l295.length + 1 ≤ 9223372036854775807) (index_Writers.j2 x298 (l295 ++ ([x298] : List Int))) else (index_Writers.j2 x298 l295)
noncomputable def index_Writers.s1 (a0 : History) (a1 : Int) : (List Int × Int) → Option ((List Int × Int) ⊕ (List Int))
  | (l295, x298) => bif decide (x298 < (a0.Txns.length : Int)) then must (0 ≤ x298 ∧ x298 < (a0.Txns.length : Int)) (bif ((idx a0.Txns x298).Status != 2) then (index_wrote (idx a0.Txns x298) a1).bind fun y390 => index_Writers.j3 l295 x298 (decide ((y390.length : Int) > 0)) else (index_Writers.j3 l295 x298 false)) else (out (some l295))
noncomputable def index_Writers (a0 : History) (a1 : Int) : Option (List Int) :=
  (index_Check a0).bind fun y8 => bif (y8 != 0) then some ([] : List Int) else (iterF (index_Writers.s1 a0 a1) ([], 0))
noncomputable def index_Final.j1 (a0 : History) (a1 : Int) (a2 : Int) (b13 : Bool) : Option (List Int × Bool) :=
  bif b13 then some (([] : List Int), false) else (must (0 ≤ a1 ∧ a1 < (a0.Txns.length : Int)) ((index_wrote (idx a0.Txns a1) a2).bind fun y40 => some (y40, decide ((y40.length : Int) > 0))))
noncomputable def index_Final (a0 : History) (a1 : Int) (a2 : Int) : Option (List Int × Bool) :=
  bif decide (a1 < 0) then index_Final.j1 a0 a1 a2 true else (bif decide (a1 ≥ (a0.Txns.length : Int)) then index_Final.j1 a0 a1 a2 true else ((index_Check a0).bind fun y46 => index_Final.j1 a0 a1 a2 (y46 != 0)))
noncomputable def source_finals.j2 (x232 : Int) (l266 : List SourceFinal) : Option ((List SourceFinal × Int) ⊕ (List SourceFinal)) :=
  some (.inl (l266, w64 (x232 + 1)))
noncomputable def source_finals.j3 (y91 : List Int) (l229 : List SourceFinal) (x232 : Int) (y278 : List Int × Bool) (b283 : Bool) : Option ((List SourceFinal × Int) ⊕ (List SourceFinal)) :=
  bif b283 then must (((l229.length + 1) + (l229.length + 1) / 4 + 192) * 32 ≤ 281474976710656 ∧ l229.length + 1 ≤ 9223372036854775807) (source_finals.j2 x232 (l229 ++ ([(⟨idx y91 x232, y278.1⟩ : SourceFinal)] : List SourceFinal))) else (source_finals.j2 x232 l229)
noncomputable def source_finals.s1 (a0 : History) (a1 : Ask) (y91 : List Int) : (List SourceFinal × Int) → Option ((List SourceFinal × Int) ⊕ (List SourceFinal))
  | (l229, x232) => bif decide (x232 < (y91.length : Int)) then must (0 ≤ x232 ∧ x232 < (y91.length : Int)) ((index_Final a0 (idx y91 x232) a1.Key).bind fun y278 => bif y278.2 then source_finals.j3 y91 l229 x232 y278 (idx y91 x232 != a1.Txn) else (source_finals.j3 y91 l229 x232 y278 false)) else (out (some l229))
noncomputable def source_finals (a0 : History) (a1 : Ask) : Option (List SourceFinal) :=
  (index_Writers a0 a1.Key).bind fun y91 => iterF (source_finals.s1 a0 a1 y91) ([], 0)
noncomputable def source_list_1 (a0 : SourceFinal) (a1 : List Int) : Option Bool := none
noncomputable def slices_Index_int (a0 : List Int) (a1 : Int) : Option Int := none
noncomputable def slices_Contains_int (a0 : List Int) (a1 : Int) : Option Bool := none
noncomputable def slices_IndexFunc_final_source_list_1 (a0 : List SourceFinal) (a1c0 : List Int) : Option Int := none
noncomputable def source_list (a0 : List Int) (a1 : List SourceFinal) : Option (List Int × Bool) := none
noncomputable def source_set (a0 : List Int) (a1 : List SourceFinal) : Option (List Int × Bool) := none
noncomputable def source_parts (a0 : History) (a1 : Ask) : Option (List Int × Bool) := none
noncomputable def source_counter_1 (a0 : Int) (a1 : Int) (a2 : Int) (a3 : List SourceFinal) (a4 : Int) (a5 : Int) : Option Int := none
noncomputable def source_counter (a0 : Int) (a1 : List SourceFinal) : Option (List Int) := none
noncomputable def source_sources.j1 (l344 : List Int) : Option (List Int) :=
  some l344
noncomputable def source_sources.j2 (a0 : History) (a1 : Ask) (l358 : List Int) : Option (List Int) :=
  must (0 ≤ (0 : Int) ∧ (0 : Int) < (a1.Base.length : Int)) ((source_finals a0 a1).bind fun y365 => (source_counter (idx a1.Base (0 : Int)) y365).bind fun y369 => must (((l358.length + y369.length) + (l358.length + y369.length) / 4 + 192) * 8 ≤ 281474976710656 ∧ l358.length + y369.length ≤ 9223372036854775807) (source_sources.j1 (l358 ++ y369)))
noncomputable def source_sources.j4 (x602 : Int) (l654 : List Int) : Option ((List Int × Int) ⊕ (List Int)) :=
  some (.inl (l654, w64 (x602 + 1)))
noncomputable def source_sources.s3 (a1 : Ask) (y406 : List SourceFinal) : (List Int × Int) → Option ((List Int × Int) ⊕ (List Int))
  | (l599, x602) => bif decide (x602 < (y406.length : Int)) then must (0 ≤ x602 ∧ x602 < (y406.length : Int)) (must (0 ≤ w64 ((((idx y406 x602).args).length : Int) - 1) ∧ w64 ((((idx y406 x602).args).length : Int) - 1) < (((idx y406 x602).args).length : Int)) (must (0 ≤ (0 : Int) ∧ (0 : Int) < (a1.Base.length : Int)) (bif (idx ((idx y406 x602).args) (w64 ((((idx y406 x602).args).length : Int) - 1)) == idx a1.Base (0 : Int)) then must (((l599.length + 1) + (l599.length + 1) / 4 + 192) * 8 ≤ 281474976710656 ∧ l599.length + 1 ≤ 9223372036854775807) (source_sources.j4 x602 (l599 ++ ([(idx y406 x602).txn] : List Int))) else (source_sources.j4 x602 l599)))) else (out (source_sources.j1 l599))
noncomputable def source_sources (a0 : History) (a1 : Ask) : Option (List Int) :=
  (index_Type a0 a1.Key).bind fun y177 => bif (y177 == 4) then must (0 ≤ (0 : Int) ∧ (0 : Int) < (a1.Base.length : Int)) (bif (idx a1.Base (0 : Int) == 0) then must (((0 + 1) + (0 + 1) / 4 + 192) * 8 ≤ 281474976710656 ∧ 0 + 1 ≤ 9223372036854775807) (source_sources.j2 a0 a1 (([] : List Int) ++ ([(-1)] : List Int))) else (source_sources.j2 a0 a1 [])) else (bif ((a1.Base.length : Int) == 0) then source_sources.j1 ([(-1)] : List Int) else (bif (y177 == 1) then (source_finals a0 a1).bind fun y406 => iterF (source_sources.s3 a1 y406) ([], 0) else (bif (y177 == 2) then (source_parts a0 a1).bind fun y703 => bif y703.2 then must (0 ≤ (w64 ((y703.1.length : Int) - 1)) ∧ (w64 ((y703.1.length : Int) - 1)) ≤ (y703.1.length : Int) ∧ (y703.1.length : Int) ≤ (y703.1.length : Int)) (source_sources.j1 (subl y703.1 (w64 ((y703.1.length : Int) - 1)) (y703.1.length : Int))) else (source_sources.j1 []) else ((source_parts a0 a1).bind fun y713 => source_sources.j1 y713.1))))
noncomputable def source_Empty_1 (a0 : Ask) (a1 : History) : Option Bool :=
  (source_sources a1 a0).bind fun y7 => some (decide ((y7.length : Int) > 0))
noncomputable def slices_IndexFunc_Ask_source_Empty_1.s1 (a0 : List Ask) (a1c0 : History) : Int → Option (Int ⊕ Int)
  | x130 => bif decide (x130 < (a0.length : Int)) then must (0 ≤ x130 ∧ x130 < (a0.length : Int)) ((source_Empty_1 (idx a0 x130) a1c0).bind fun y181 => bif y181 then out (some x130) else (some (.inl (w64 (x130 + 1))))) else (out (some (-1)))
noncomputable def slices_IndexFunc_Ask_source_Empty_1 (a0 : List Ask) (a1c0 : History) : Option Int :=
  iterF (slices_IndexFunc_Ask_source_Empty_1.s1 a0 a1c0) 0
noncomputable def slices_DeleteFunc_Ask_source_Empty_1.s1 (a0 : List Ask) (a1c0 : History) : List Ask × Int → Option ((List Ask × Int) ⊕ List Ask)
  | (l, x) => bif decide (x < (a0.length : Int)) then must (0 ≤ x ∧ x < (a0.length : Int)) ((source_Empty_1 (idx a0 x) a1c0).bind fun y => bif !y then (some (.inl (l ++ [idx a0 x], w64 (x + 1)))) else (some (.inl (l, w64 (x + 1))))) else (out (some l))
noncomputable def slices_DeleteFunc_Ask_source_Empty_1 (a0 : List Ask) (a1c0 : History) : Option (List Ask) :=
  (slices_IndexFunc_Ask_source_Empty_1 a0 a1c0).bind fun i => bif i == -1 then some a0 else must (0 ≤ i ∧ i < (a0.length : Int)) (iterF (slices_DeleteFunc_Ask_source_Empty_1.s1 a0 a1c0) (a0.take i.toNat, w64 (i + 1)))
noncomputable def source_Empty (a0 : History) : Option (List Ask × Int) :=
  (local_Asks a0).bind fun y7 => bif (y7.2 != 0) then some (([] : List Ask), y7.2) else ((slices_DeleteFunc_Ask_source_Empty_1 y7.1 a0).bind fun y27 => some (y27, 0))
noncomputable def source_known_1 (a0 : Ask) (a1 : Ask) : Option Bool :=
  bif (a1.Txn == a0.Txn) then bif (a1.Place == a0.Place) then bif (a1.Key == a0.Key) then (slices_Equal_int64 a1.Base a0.Base).bind fun y11 => some y11 else (some false) else (some false) else (some false)
noncomputable def slices_IndexFunc_Ask_source_known_1.s1 (a0 : List Ask) (a1c0 : Ask) : Int → Option (Int ⊕ Int)
  | x130 => bif decide (x130 < (a0.length : Int)) then must (0 ≤ x130 ∧ x130 < (a0.length : Int)) ((source_known_1 (idx a0 x130) a1c0).bind fun y181 => bif y181 then out (some x130) else (some (.inl (w64 (x130 + 1))))) else (out (some (-1)))
noncomputable def slices_IndexFunc_Ask_source_known_1 (a0 : List Ask) (a1c0 : Ask) : Option Int :=
  iterF (slices_IndexFunc_Ask_source_known_1.s1 a0 a1c0) 0
noncomputable def slices_ContainsFunc_Ask_source_known_1 (a0 : List Ask) (a1c0 : Ask) : Option Bool :=
  (slices_IndexFunc_Ask_source_known_1 a0 a1c0).bind fun y3 => some (decide (y3 ≥ 0))
noncomputable def source_known (a0 : History) (a1 : Ask) : Option Int :=
  (local_Asks a0).bind fun y9 => bif (y9.2 != 0) then some y9.2 else ((slices_ContainsFunc_Ask_source_known_1 y9.1 a1).bind fun y20 => bif y20 then some 0 else (some 1))
noncomputable def source_Sources (a0 : History) (a1 : Ask) : Option (List Int × Int) :=
  (source_known a0 a1).bind fun y10 => bif (y10 != 0) then some (([] : List Int), y10) else ((source_sources a0 a1).bind fun y17 => some (y17, 0))
noncomputable def assizelaw10zalive : Option Bool :=
  (source_Sources (⟨([(⟨#[120]⟩ : ByteArray)] : List ByteArray), ([(⟨0, 1, 0, 1, ([(⟨1, 0, 5, false, ([] : List Int)⟩ : Op)] : List Op)⟩ : Txn), (⟨0, 1, 2, 3, ([(⟨5, 0, 0, true, ([5] : List Int)⟩ : Op)] : List Op)⟩ : Txn)] : List Txn)⟩ : History) (⟨1, 0, 0, ([5] : List Int)⟩ : Ask)).bind fun y31 => (source_Empty (⟨([(⟨#[120]⟩ : ByteArray)] : List ByteArray), ([(⟨0, 1, 0, 1, ([(⟨1, 0, 5, false, ([] : List Int)⟩ : Op)] : List Op)⟩ : Txn), (⟨0, 1, 2, 3, ([(⟨5, 0, 0, true, ([5] : List Int)⟩ : Op)] : List Op)⟩ : Txn)] : List Txn)⟩ : History)).bind fun y39 => bif (y31.2 == 0) then bif ((y31.1.length : Int) == 1) then must (0 ≤ (0 : Int) ∧ (0 : Int) < (y31.1.length : Int)) (bif (idx y31.1 (0 : Int) == 0) then bif (y39.2 == 0) then some ((y39.1.length : Int) == 0) else (some false) else (some false)) else (some false) else (some false)
end Fuel
theorem slices_Index_string.s1zle (a0 : List ByteArray) (a1 : ByteArray) : ∀ (s0 : _), Le (Fuel.slices_Index_string.s1 a0 a1 s0) (slices_Index_string.s1 a0 a1 s0)
  | x58 => by
    simp only [Fuel.slices_Index_string.s1, slices_Index_string.s1]
    with_reducible repeat' (first | exact le_refl _ | apply le_must | apply le_cond | apply le_out | refine le_bind ?_ (fun _ => ?_) | refine Fuel.le_iterF (fun _ => ?_))
theorem slices_Index_string_le (a0 : List ByteArray) (a1 : ByteArray) : Le (Fuel.slices_Index_string a0 a1) (slices_Index_string a0 a1) := by
  simp only [Fuel.slices_Index_string, slices_Index_string]
  with_reducible repeat' (first | exact le_refl _ | apply slices_Index_string.s1zle | apply le_must | apply le_cond | apply le_out | refine le_bind ?_ (fun _ => ?_) | refine Fuel.le_iterF (fun _ => ?_))
theorem slices_Contains_string_le (a0 : List ByteArray) (a1 : ByteArray) : Le (Fuel.slices_Contains_string a0 a1) (slices_Contains_string a0 a1) := by
  simp only [Fuel.slices_Contains_string, slices_Contains_string]
  with_reducible repeat' (first | exact le_refl _ | apply slices_Index_string_le | apply le_must | apply le_cond | apply le_out | refine le_bind ?_ (fun _ => ?_) | refine Fuel.le_iterF (fun _ => ?_))
theorem index_newLedger_le  : Le (Fuel.index_newLedger) (index_newLedger) := by
  simp only [Fuel.index_newLedger, index_newLedger]
  with_reducible repeat' (first | exact le_refl _ | apply le_must | apply le_cond | apply le_out | refine le_bind ?_ (fun _ => ?_) | refine Fuel.le_iterF (fun _ => ?_))
theorem wire_shape_le (a0 : Int) : Le (Fuel.wire_shape a0) (wire_shape a0) := by
  simp only [Fuel.wire_shape, wire_shape]
  with_reducible repeat' (first | exact le_refl _ | apply le_must | apply le_cond | apply le_out | refine le_bind ?_ (fun _ => ?_) | refine Fuel.le_iterF (fun _ => ?_))
theorem wire_sound.j5zle (a0 : Call) (x130 : Int) (b135 : Bool) : Le (Fuel.wire_sound.j5 a0 x130 b135) (wire_sound.j5 a0 x130 b135) := by
  simp only [Fuel.wire_sound.j5, wire_sound.j5]
  with_reducible repeat' (first | exact le_refl _ | apply le_must | apply le_cond | apply le_out | refine le_bind ?_ (fun _ => ?_) | refine Fuel.le_iterF (fun _ => ?_))
theorem wire_sound.s4zle (a0 : Call) : ∀ (s0 : _), Le (Fuel.wire_sound.s4 a0 s0) (wire_sound.s4 a0 s0)
  | x130 => by
    simp only [Fuel.wire_sound.s4, wire_sound.s4]
    with_reducible repeat' (first | exact le_refl _ | apply wire_sound.j5zle | apply le_must | apply le_cond | apply le_out | refine le_bind ?_ (fun _ => ?_) | refine Fuel.le_iterF (fun _ => ?_))
theorem wire_sound.j3zle (a0 : Call) (b46 : Bool) : Le (Fuel.wire_sound.j3 a0 b46) (wire_sound.j3 a0 b46) := by
  simp only [Fuel.wire_sound.j3, wire_sound.j3]
  with_reducible repeat' (first | exact le_refl _ | apply wire_sound.s4zle | apply le_must | apply le_cond | apply le_out | refine le_bind ?_ (fun _ => ?_) | refine Fuel.le_iterF (fun _ => ?_))
theorem wire_sound.j2zle (a0 : Call) (b33 : Bool) : Le (Fuel.wire_sound.j2 a0 b33) (wire_sound.j2 a0 b33) := by
  simp only [Fuel.wire_sound.j2, wire_sound.j2]
  with_reducible repeat' (first | exact le_refl _ | apply wire_shape_le | apply wire_sound.j3zle | apply le_must | apply le_cond | apply le_out | refine le_bind ?_ (fun _ => ?_) | refine Fuel.le_iterF (fun _ => ?_))
theorem wire_sound.j1zle (a0 : Call) (a1 : Int) (b11 : Bool) : Le (Fuel.wire_sound.j1 a0 a1 b11) (wire_sound.j1 a0 a1 b11) := by
  simp only [Fuel.wire_sound.j1, wire_sound.j1]
  with_reducible repeat' (first | exact le_refl _ | apply wire_sound.j2zle | apply le_must | apply le_cond | apply le_out | refine le_bind ?_ (fun _ => ?_) | refine Fuel.le_iterF (fun _ => ?_))
theorem wire_sound_le (a0 : Call) (a1 : Int) : Le (Fuel.wire_sound a0 a1) (wire_sound a0 a1) := by
  simp only [Fuel.wire_sound, wire_sound]
  with_reducible repeat' (first | exact le_refl _ | apply wire_sound.j1zle | apply le_must | apply le_cond | apply le_out | refine le_bind ?_ (fun _ => ?_) | refine Fuel.le_iterF (fun _ => ?_))
theorem wire_Check_1zle (a0 : Call) (a1 : Event) : Le (Fuel.wire_Check_1 a0 a1) (wire_Check_1 a0 a1) := by
  simp only [Fuel.wire_Check_1, wire_Check_1]
  with_reducible repeat' (first | exact le_refl _ | apply wire_sound_le | apply le_must | apply le_cond | apply le_out | refine le_bind ?_ (fun _ => ?_) | refine Fuel.le_iterF (fun _ => ?_))
theorem slices_IndexFunc_Call_wire_Check_1.s1zle (a0 : List Call) (a1c0 : Event) : ∀ (s0 : _), Le (Fuel.slices_IndexFunc_Call_wire_Check_1.s1 a0 a1c0 s0) (slices_IndexFunc_Call_wire_Check_1.s1 a0 a1c0 s0)
  | x130 => by
    simp only [Fuel.slices_IndexFunc_Call_wire_Check_1.s1, slices_IndexFunc_Call_wire_Check_1.s1]
    with_reducible repeat' (first | exact le_refl _ | apply wire_Check_1zle | apply le_must | apply le_cond | apply le_out | refine le_bind ?_ (fun _ => ?_) | refine Fuel.le_iterF (fun _ => ?_) | exact hY _ _ | assumption | intro _ _)
theorem slices_IndexFunc_Call_wire_Check_1zle (a0 : List Call) (a1c0 : Event) : Le (Fuel.slices_IndexFunc_Call_wire_Check_1 a0 a1c0) (slices_IndexFunc_Call_wire_Check_1 a0 a1c0) := by
  simp only [Fuel.slices_IndexFunc_Call_wire_Check_1, slices_IndexFunc_Call_wire_Check_1]
  with_reducible repeat' (first | exact le_refl _ | apply slices_IndexFunc_Call_wire_Check_1.s1zle | apply le_must | apply le_cond | apply le_out | refine le_bind ?_ (fun _ => ?_) | refine Fuel.le_iterF (fun _ => ?_) | exact hY _ _ | assumption | intro _ _)
theorem slices_ContainsFunc_Call_wire_Check_1zle (a0 : List Call) (a1c0 : Event) : Le (Fuel.slices_ContainsFunc_Call_wire_Check_1 a0 a1c0) (slices_ContainsFunc_Call_wire_Check_1 a0 a1c0) := by
  simp only [Fuel.slices_ContainsFunc_Call_wire_Check_1, slices_ContainsFunc_Call_wire_Check_1]
  with_reducible repeat' (first | exact le_refl _ | apply slices_IndexFunc_Call_wire_Check_1zle | apply le_must | apply le_cond | apply le_out | refine le_bind ?_ (fun _ => ?_) | refine Fuel.le_iterF (fun _ => ?_) | exact hY _ _ | assumption | intro _ _)
theorem wire_Check.j2zle (a0 : List Event) (x172 : Int) (b239 : Bool) : Le (Fuel.wire_Check.j2 a0 x172 b239) (wire_Check.j2 a0 x172 b239) := by
  simp only [Fuel.wire_Check.j2, wire_Check.j2]
  with_reducible repeat' (first | exact le_refl _ | apply slices_ContainsFunc_Call_wire_Check_1zle | apply le_must | apply le_cond | apply le_out | refine le_bind ?_ (fun _ => ?_) | refine Fuel.le_iterF (fun _ => ?_) | exact hY _ _ | assumption | intro _ _)
theorem wire_Check.s1zle (a0 : List Event) : ∀ (s0 : _), Le (Fuel.wire_Check.s1 a0 s0) (wire_Check.s1 a0 s0)
  | x172 => by
    simp only [Fuel.wire_Check.s1, wire_Check.s1]
    with_reducible repeat' (first | exact le_refl _ | apply wire_Check.j2zle | apply le_must | apply le_cond | apply le_out | refine le_bind ?_ (fun _ => ?_) | refine Fuel.le_iterF (fun _ => ?_))
theorem wire_Check_le (a0 : List Event) : Le (Fuel.wire_Check a0) (wire_Check a0) := by
  simp only [Fuel.wire_Check, wire_Check]
  with_reducible repeat' (first | exact le_refl _ | apply wire_Check.s1zle | apply le_must | apply le_cond | apply le_out | refine le_bind ?_ (fun _ => ?_) | refine Fuel.le_iterF (fun _ => ?_))
theorem index_calls.j2zle (a0 : History) (a1 : Txn) (l421 : List Call) (x424 : Int) : Le (Fuel.index_calls.j2 a0 a1 l421 x424) (index_calls.j2 a0 a1 l421 x424) := by
  simp only [Fuel.index_calls.j2, index_calls.j2]
  with_reducible repeat' (first | exact le_refl _ | apply le_must | apply le_cond | apply le_out | refine le_bind ?_ (fun _ => ?_) | refine Fuel.le_iterF (fun _ => ?_))
theorem index_calls.j3zle (a0 : History) (a1 : Txn) (l421 : List Call) (x424 : Int) (b538 : Bool) : Le (Fuel.index_calls.j3 a0 a1 l421 x424 b538) (index_calls.j3 a0 a1 l421 x424 b538) := by
  simp only [Fuel.index_calls.j3, index_calls.j3]
  with_reducible repeat' (first | exact le_refl _ | apply index_calls.j2zle | apply le_must | apply le_cond | apply le_out | refine le_bind ?_ (fun _ => ?_) | refine Fuel.le_iterF (fun _ => ?_))
theorem index_calls.s1zle (a0 : History) (a1 : Txn) : ∀ (s0 : _), Le (Fuel.index_calls.s1 a0 a1 s0) (index_calls.s1 a0 a1 s0)
  | (l421, x424) => by
    simp only [Fuel.index_calls.s1, index_calls.s1]
    with_reducible repeat' (first | exact le_refl _ | apply wire_Check_le | apply index_calls.j3zle | apply le_must | apply le_cond | apply le_out | refine le_bind ?_ (fun _ => ?_) | refine Fuel.le_iterF (fun _ => ?_))
theorem index_calls_le (a0 : History) (a1 : Txn) : Le (Fuel.index_calls a0 a1) (index_calls a0 a1) := by
  simp only [Fuel.index_calls, index_calls]
  with_reducible repeat' (first | exact le_refl _ | apply index_calls.s1zle | apply le_must | apply le_cond | apply le_out | refine le_bind ?_ (fun _ => ?_) | refine Fuel.le_iterF (fun _ => ?_))
theorem index_placed_1zle (a0 : Txn) (a1 : Txn) : Le (Fuel.index_placed_1 a0 a1) (index_placed_1 a0 a1) := by
  simp only [Fuel.index_placed_1, index_placed_1]
  with_reducible repeat' (first | exact le_refl _ | apply le_must | apply le_cond | apply le_out | refine le_bind ?_ (fun _ => ?_) | refine Fuel.le_iterF (fun _ => ?_))
theorem slices_IndexFunc_Txn_index_placed_1.s1zle (a0 : List Txn) (a1c0 : Txn) : ∀ (s0 : _), Le (Fuel.slices_IndexFunc_Txn_index_placed_1.s1 a0 a1c0 s0) (slices_IndexFunc_Txn_index_placed_1.s1 a0 a1c0 s0)
  | x130 => by
    simp only [Fuel.slices_IndexFunc_Txn_index_placed_1.s1, slices_IndexFunc_Txn_index_placed_1.s1]
    with_reducible repeat' (first | exact le_refl _ | apply index_placed_1zle | apply le_must | apply le_cond | apply le_out | refine le_bind ?_ (fun _ => ?_) | refine Fuel.le_iterF (fun _ => ?_) | exact hY _ _ | assumption | intro _ _)
theorem slices_IndexFunc_Txn_index_placed_1zle (a0 : List Txn) (a1c0 : Txn) : Le (Fuel.slices_IndexFunc_Txn_index_placed_1 a0 a1c0) (slices_IndexFunc_Txn_index_placed_1 a0 a1c0) := by
  simp only [Fuel.slices_IndexFunc_Txn_index_placed_1, slices_IndexFunc_Txn_index_placed_1]
  with_reducible repeat' (first | exact le_refl _ | apply slices_IndexFunc_Txn_index_placed_1.s1zle | apply le_must | apply le_cond | apply le_out | refine le_bind ?_ (fun _ => ?_) | refine Fuel.le_iterF (fun _ => ?_) | exact hY _ _ | assumption | intro _ _)
theorem slices_ContainsFunc_Txn_index_placed_1zle (a0 : List Txn) (a1c0 : Txn) : Le (Fuel.slices_ContainsFunc_Txn_index_placed_1 a0 a1c0) (slices_ContainsFunc_Txn_index_placed_1 a0 a1c0) := by
  simp only [Fuel.slices_ContainsFunc_Txn_index_placed_1, slices_ContainsFunc_Txn_index_placed_1]
  with_reducible repeat' (first | exact le_refl _ | apply slices_IndexFunc_Txn_index_placed_1zle | apply le_must | apply le_cond | apply le_out | refine le_bind ?_ (fun _ => ?_) | refine Fuel.le_iterF (fun _ => ?_) | exact hY _ _ | assumption | intro _ _)
theorem index_placed.j2zle (a0 : List Txn) (a1 : Txn) (b46 : Bool) : Le (Fuel.index_placed.j2 a0 a1 b46) (index_placed.j2 a0 a1 b46) := by
  simp only [Fuel.index_placed.j2, index_placed.j2]
  with_reducible repeat' (first | exact le_refl _ | apply slices_ContainsFunc_Txn_index_placed_1zle | apply le_must | apply le_cond | apply le_out | refine le_bind ?_ (fun _ => ?_) | refine Fuel.le_iterF (fun _ => ?_) | exact hY _ _ | assumption | intro _ _)
theorem index_placed.j1zle (a0 : List Txn) (a1 : Txn) : Le (Fuel.index_placed.j1 a0 a1) (index_placed.j1 a0 a1) := by
  simp only [Fuel.index_placed.j1, index_placed.j1]
  with_reducible repeat' (first | exact le_refl _ | apply index_placed.j2zle | apply le_must | apply le_cond | apply le_out | refine le_bind ?_ (fun _ => ?_) | refine Fuel.le_iterF (fun _ => ?_))
theorem index_placed.j4zle (a0 : List Txn) (a1 : Txn) (b72 : Bool) : Le (Fuel.index_placed.j4 a0 a1 b72) (index_placed.j4 a0 a1 b72) := by
  simp only [Fuel.index_placed.j4, index_placed.j4]
  with_reducible repeat' (first | exact le_refl _ | apply index_placed.j1zle | apply le_must | apply le_cond | apply le_out | refine le_bind ?_ (fun _ => ?_) | refine Fuel.le_iterF (fun _ => ?_))
theorem index_placed.j3zle (a0 : List Txn) (a1 : Txn) (b66 : Bool) : Le (Fuel.index_placed.j3 a0 a1 b66) (index_placed.j3 a0 a1 b66) := by
  simp only [Fuel.index_placed.j3, index_placed.j3]
  with_reducible repeat' (first | exact le_refl _ | apply index_placed.j1zle | apply index_placed.j4zle | apply le_must | apply le_cond | apply le_out | refine le_bind ?_ (fun _ => ?_) | refine Fuel.le_iterF (fun _ => ?_))
theorem index_placed_le (a0 : List Txn) (a1 : Txn) : Le (Fuel.index_placed a0 a1) (index_placed a0 a1) := by
  simp only [Fuel.index_placed, index_placed]
  with_reducible repeat' (first | exact le_refl _ | apply index_placed.j3zle | apply le_must | apply le_cond | apply le_out | refine le_bind ?_ (fun _ => ?_) | refine Fuel.le_iterF (fun _ => ?_))
theorem index_typeOf_le (a0 : Int) : Le (Fuel.index_typeOf a0) (index_typeOf a0) := by
  simp only [Fuel.index_typeOf, index_typeOf]
  with_reducible repeat' (first | exact le_refl _ | apply le_must | apply le_cond | apply le_out | refine le_bind ?_ (fun _ => ?_) | refine Fuel.le_iterF (fun _ => ?_))
theorem index_ledger_enter.j2zle (l59 : List ByteArray) (m62 : List (ByteArray × Int)) (l63 : List Int) (m152 : List (IndexFact × Unit)) (m153 : List (ByteArray × (List Int))) : Le (Fuel.index_ledger_enter.j2 l59 m62 l63 m152 m153) (index_ledger_enter.j2 l59 m62 l63 m152 m153) := by
  simp only [Fuel.index_ledger_enter.j2, index_ledger_enter.j2]
  with_reducible repeat' (first | exact le_refl _ | apply le_must | apply le_cond | apply le_out | refine le_bind ?_ (fun _ => ?_) | refine Fuel.le_iterF (fun _ => ?_))
theorem index_ledger_enter.j4zle (a0 : IndexLedger) (a1 : Call) (l59 : List ByteArray) (m62 : List (ByteArray × Int)) (l63 : List Int) : Le (Fuel.index_ledger_enter.j4 a0 a1 l59 m62 l63) (index_ledger_enter.j4 a0 a1 l59 m62 l63) := by
  simp only [Fuel.index_ledger_enter.j4, index_ledger_enter.j4]
  with_reducible repeat' (first | exact le_refl _ | apply index_ledger_enter.j2zle | apply le_must | apply le_cond | apply le_out | refine le_bind ?_ (fun _ => ?_) | refine Fuel.le_iterF (fun _ => ?_))
theorem index_ledger_enter.j5zle (a0 : IndexLedger) (a1 : Call) (l59 : List ByteArray) (m62 : List (ByteArray × Int)) (l63 : List Int) (m196 : List (ByteArray × (List Int))) : Le (Fuel.index_ledger_enter.j5 a0 a1 l59 m62 l63 m196) (index_ledger_enter.j5 a0 a1 l59 m62 l63 m196) := by
  simp only [Fuel.index_ledger_enter.j5, index_ledger_enter.j5]
  with_reducible repeat' (first | exact le_refl _ | apply index_ledger_enter.j2zle | apply le_must | apply le_cond | apply le_out | refine le_bind ?_ (fun _ => ?_) | refine Fuel.le_iterF (fun _ => ?_))
theorem index_ledger_enter.j6zle (a0 : IndexLedger) (a1 : Call) (a2 : Int) (l59 : List ByteArray) (m62 : List (ByteArray × Int)) (l63 : List Int) (b223 : Bool) : Le (Fuel.index_ledger_enter.j6 a0 a1 a2 l59 m62 l63 b223) (index_ledger_enter.j6 a0 a1 a2 l59 m62 l63 b223) := by
  simp only [Fuel.index_ledger_enter.j6, index_ledger_enter.j6]
  with_reducible repeat' (first | exact le_refl _ | apply index_ledger_enter.j5zle | apply le_must | apply le_cond | apply le_out | refine le_bind ?_ (fun _ => ?_) | refine Fuel.le_iterF (fun _ => ?_))
theorem index_ledger_enter.j3zle (a0 : IndexLedger) (a1 : Call) (a2 : Int) (l59 : List ByteArray) (m62 : List (ByteArray × Int)) (l63 : List Int) (b156 : Bool) : Le (Fuel.index_ledger_enter.j3 a0 a1 a2 l59 m62 l63 b156) (index_ledger_enter.j3 a0 a1 a2 l59 m62 l63 b156) := by
  simp only [Fuel.index_ledger_enter.j3, index_ledger_enter.j3]
  with_reducible repeat' (first | exact le_refl _ | apply index_ledger_enter.j2zle | apply index_ledger_enter.j4zle | apply index_ledger_enter.j6zle | apply le_must | apply le_cond | apply le_out | refine le_bind ?_ (fun _ => ?_) | refine Fuel.le_iterF (fun _ => ?_))
theorem index_ledger_enter.j1zle (a0 : IndexLedger) (a1 : Call) (a2 : Int) (l59 : List ByteArray) (m62 : List (ByteArray × Int)) (l63 : List Int) (x66 : Int) : Le (Fuel.index_ledger_enter.j1 a0 a1 a2 l59 m62 l63 x66) (index_ledger_enter.j1 a0 a1 a2 l59 m62 l63 x66) := by
  simp only [Fuel.index_ledger_enter.j1, index_ledger_enter.j1]
  with_reducible repeat' (first | exact le_refl _ | apply index_typeOf_le | apply index_ledger_enter.j3zle | apply le_must | apply le_cond | apply le_out | refine le_bind ?_ (fun _ => ?_) | refine Fuel.le_iterF (fun _ => ?_))
theorem index_ledger_enter.j7zle (a0 : IndexLedger) (a1 : Call) (a2 : Int) : Le (Fuel.index_ledger_enter.j7 a0 a1 a2) (index_ledger_enter.j7 a0 a1 a2) := by
  simp only [Fuel.index_ledger_enter.j7, index_ledger_enter.j7]
  with_reducible repeat' (first | exact le_refl _ | apply index_typeOf_le | apply index_ledger_enter.j1zle | apply le_must | apply le_cond | apply le_out | refine le_bind ?_ (fun _ => ?_) | refine Fuel.le_iterF (fun _ => ?_))
theorem index_ledger_enter_le (a0 : IndexLedger) (a1 : Call) (a2 : Int) : Le (Fuel.index_ledger_enter a0 a1 a2) (index_ledger_enter a0 a1 a2) := by
  simp only [Fuel.index_ledger_enter, index_ledger_enter]
  with_reducible repeat' (first | exact le_refl _ | apply index_ledger_enter.j1zle | apply index_ledger_enter.j7zle | apply le_must | apply le_cond | apply le_out | refine le_bind ?_ (fun _ => ?_) | refine Fuel.le_iterF (fun _ => ?_))
theorem index_Check.j3zle (x147 : Int) (b193 : Bool) : Le (Fuel.index_Check.j3 x147 b193) (index_Check.j3 x147 b193) := by
  simp only [Fuel.index_Check.j3, index_Check.j3]
  with_reducible repeat' (first | exact le_refl _ | apply le_must | apply le_cond | apply le_out | refine le_bind ?_ (fun _ => ?_) | refine Fuel.le_iterF (fun _ => ?_))
theorem index_Check.s6zle (x1922 : Int) (y2316 : Event × Bool) : ∀ (s0 : _), Le (Fuel.index_Check.s6 x1922 y2316 s0) (index_Check.s6 x1922 y2316 s0)
  | (l2615, m2618, l2620, m2623, m2625, x2627) => by
    simp only [Fuel.index_Check.s6, index_Check.s6]
    with_reducible repeat' (first | exact le_refl _ | apply index_ledger_enter_le | apply le_must | apply le_cond | apply le_out | refine le_bind ?_ (fun _ => ?_) | refine Fuel.le_iterF (fun _ => ?_))
theorem index_Check.j5zle (l1910 : List ByteArray) (m1913 : List (ByteArray × Int)) (l1915 : List Int) (m1918 : List (IndexFact × Unit)) (m1920 : List (ByteArray × (List Int))) (x1922 : Int) (y2316 : Event × Bool) (b2339 : Bool) : Le (Fuel.index_Check.j5 l1910 m1913 l1915 m1918 m1920 x1922 y2316 b2339) (index_Check.j5 l1910 m1913 l1915 m1918 m1920 x1922 y2316 b2339) := by
  simp only [Fuel.index_Check.j5, index_Check.j5]
  with_reducible repeat' (first | exact le_refl _ | apply index_Check.s6zle | apply le_must | apply le_cond | apply le_out | refine le_bind ?_ (fun _ => ?_) | refine Fuel.le_iterF (fun _ => ?_))
theorem index_Check.s4zle (a0 : History) : ∀ (s0 : _), Le (Fuel.index_Check.s4 a0 s0) (index_Check.s4 a0 s0)
  | (l1910, m1913, l1915, m1918, m1920, x1922) => by
    simp only [Fuel.index_Check.s4, index_Check.s4]
    with_reducible repeat' (first | exact le_refl _ | apply index_calls_le | apply index_placed_le | apply index_Check.j5zle | apply le_must | apply le_cond | apply le_out | refine le_bind ?_ (fun _ => ?_) | refine Fuel.le_iterF (fun _ => ?_))
theorem index_Check.s2zle (a0 : History) : ∀ (s0 : _), Le (Fuel.index_Check.s2 a0 s0) (index_Check.s2 a0 s0)
  | x147 => by
    simp only [Fuel.index_Check.s2, index_Check.s2]
    with_reducible repeat' (first | exact le_refl _ | apply slices_Contains_string_le | apply index_newLedger_le | apply index_Check.j3zle | apply index_Check.s4zle | apply le_must | apply le_cond | apply le_out | refine le_bind ?_ (fun _ => ?_) | refine Fuel.le_iterF (fun _ => ?_))
theorem index_Check.j1zle (a0 : History) (b7 : Bool) : Le (Fuel.index_Check.j1 a0 b7) (index_Check.j1 a0 b7) := by
  simp only [Fuel.index_Check.j1, index_Check.j1]
  with_reducible repeat' (first | exact le_refl _ | apply index_Check.s2zle | apply le_must | apply le_cond | apply le_out | refine le_bind ?_ (fun _ => ?_) | refine Fuel.le_iterF (fun _ => ?_))
theorem index_Check_le (a0 : History) : Le (Fuel.index_Check a0) (index_Check a0) := by
  simp only [Fuel.index_Check, index_Check]
  with_reducible repeat' (first | exact le_refl _ | apply index_Check.j1zle | apply le_must | apply le_cond | apply le_out | refine le_bind ?_ (fun _ => ?_) | refine Fuel.le_iterF (fun _ => ?_))
theorem slices_Clone_int64zle (a0 : List Int) : Le (Fuel.slices_Clone_int64 a0) (slices_Clone_int64 a0) := by
  simp only [Fuel.slices_Clone_int64, slices_Clone_int64]
  with_reducible repeat' (first | exact le_refl _ | apply le_must | apply le_cond | apply le_out | refine le_bind ?_ (fun _ => ?_) | refine Fuel.le_iterF (fun _ => ?_))
theorem slices_Equal_int64.s1zle (a0 : List Int) (a1 : List Int) : ∀ (s0 : _), Le (Fuel.slices_Equal_int64.s1 a0 a1 s0) (slices_Equal_int64.s1 a0 a1 s0)
  | x84 => by
    simp only [Fuel.slices_Equal_int64.s1, slices_Equal_int64.s1]
    with_reducible repeat' (first | exact le_refl _ | apply le_must | apply le_cond | apply le_out | refine le_bind ?_ (fun _ => ?_) | refine Fuel.le_iterF (fun _ => ?_))
theorem slices_Equal_int64zle (a0 : List Int) (a1 : List Int) : Le (Fuel.slices_Equal_int64 a0 a1) (slices_Equal_int64 a0 a1) := by
  simp only [Fuel.slices_Equal_int64, slices_Equal_int64]
  with_reducible repeat' (first | exact le_refl _ | apply slices_Equal_int64.s1zle | apply le_must | apply le_cond | apply le_out | refine le_bind ?_ (fun _ => ?_) | refine Fuel.le_iterF (fun _ => ?_))
theorem state_Before_le (a0 : Int) (a1 : List Int) (a2 : List Int) : Le (Fuel.state_Before a0 a1 a2) (state_Before a0 a1 a2) := fun _ h => nomatch h
theorem local_found_look.j2zle (x716 : Int) (l938 : List Ask) (l941 : List Spot) (m944 : List (Int × (List Int))) : Le (Fuel.local_found_look.j2 x716 l938 l941 m944) (local_found_look.j2 x716 l938 l941 m944) := by
  simp only [Fuel.local_found_look.j2, local_found_look.j2]
  with_reducible repeat' (first | exact le_refl _ | apply le_must | apply le_cond | apply le_out | refine le_bind ?_ (fun _ => ?_) | refine Fuel.le_iterF (fun _ => ?_))
theorem local_found_look.j3zle (a1 : History) (a2 : Int) (l709 : List Ask) (l712 : List Spot) (m715 : List (Int × (List Int))) (x716 : Int) (l1129 : List Int) (b1132 : Bool) : Le (Fuel.local_found_look.j3 a1 a2 l709 l712 m715 x716 l1129 b1132) (local_found_look.j3 a1 a2 l709 l712 m715 x716 l1129 b1132) := by
  simp only [Fuel.local_found_look.j3, local_found_look.j3]
  with_reducible repeat' (first | exact le_refl _ | apply local_found_look.j2zle | apply le_must | apply le_cond | apply le_out | refine le_bind ?_ (fun _ => ?_) | refine Fuel.le_iterF (fun _ => ?_))
theorem local_found_look.j4zle (a1 : History) (a2 : Int) (l709 : List Ask) (l712 : List Spot) (m715 : List (Int × (List Int))) (x716 : Int) (y1187 : List Int × Bool) (b1192 : Bool) : Le (Fuel.local_found_look.j4 a1 a2 l709 l712 m715 x716 y1187 b1192) (local_found_look.j4 a1 a2 l709 l712 m715 x716 y1187 b1192) := by
  simp only [Fuel.local_found_look.j4, local_found_look.j4]
  with_reducible repeat' (first | exact le_refl _ | apply local_found_look.j2zle | apply local_found_look.j3zle | apply le_must | apply le_cond | apply le_out | refine le_bind ?_ (fun _ => ?_) | refine Fuel.le_iterF (fun _ => ?_))
theorem local_found_look.s1zle (a1 : History) (a2 : Int) : ∀ (s0 : _), Le (Fuel.local_found_look.s1 a1 a2 s0) (local_found_look.s1 a1 a2 s0)
  | (l709, l712, m715, x716) => by
    simp only [Fuel.local_found_look.s1, local_found_look.s1]
    with_reducible repeat' (first | exact le_refl _ | apply slices_Clone_int64zle | apply state_Before_le | apply local_found_look.j2zle | apply local_found_look.j3zle | apply local_found_look.j4zle | apply le_must | apply le_cond | apply le_out | refine le_bind ?_ (fun _ => ?_) | refine Fuel.le_iterF (fun _ => ?_))
theorem local_found_look_le (a0 : LocalFound) (a1 : History) (a2 : Int) : Le (Fuel.local_found_look a0 a1 a2) (local_found_look a0 a1 a2) := by
  simp only [Fuel.local_found_look, local_found_look]
  with_reducible repeat' (first | exact le_refl _ | apply local_found_look.s1zle | apply le_must | apply le_cond | apply le_out | refine le_bind ?_ (fun _ => ?_) | refine Fuel.le_iterF (fun _ => ?_))
theorem local_all.s1zle (a0 : History) : ∀ (s0 : _), Le (Fuel.local_all.s1 a0 s0) (local_all.s1 a0 s0)
  | (l230, l233, x236) => by
    simp only [Fuel.local_all.s1, local_all.s1]
    with_reducible repeat' (first | exact le_refl _ | apply local_found_look_le | apply le_must | apply le_cond | apply le_out | refine le_bind ?_ (fun _ => ?_) | refine Fuel.le_iterF (fun _ => ?_))
theorem local_all_le (a0 : History) : Le (Fuel.local_all a0) (local_all a0) := by
  simp only [Fuel.local_all, local_all]
  with_reducible repeat' (first | exact le_refl _ | apply index_Check_le | apply local_all.s1zle | apply le_must | apply le_cond | apply le_out | refine le_bind ?_ (fun _ => ?_) | refine Fuel.le_iterF (fun _ => ?_))
theorem local_Asks_le (a0 : History) : Le (Fuel.local_Asks a0) (local_Asks a0) := by
  simp only [Fuel.local_Asks, local_Asks]
  with_reducible repeat' (first | exact le_refl _ | apply local_all_le | apply le_must | apply le_cond | apply le_out | refine le_bind ?_ (fun _ => ?_) | refine Fuel.le_iterF (fun _ => ?_))
theorem index_Type.s2zle (a0 : History) (a1 : Int) (x532 : Int) : ∀ (s0 : _), Le (Fuel.index_Type.s2 a0 a1 x532 s0) (index_Type.s2 a0 a1 x532 s0)
  | x767 => by
    simp only [Fuel.index_Type.s2, index_Type.s2]
    with_reducible repeat' (first | exact le_refl _ | apply index_typeOf_le | apply le_must | apply le_cond | apply le_out | refine le_bind ?_ (fun _ => ?_) | refine Fuel.le_iterF (fun _ => ?_))
theorem index_Type.s1zle (a0 : History) (a1 : Int) : ∀ (s0 : _), Le (Fuel.index_Type.s1 a0 a1 s0) (index_Type.s1 a0 a1 s0)
  | x532 => by
    simp only [Fuel.index_Type.s1, index_Type.s1]
    with_reducible repeat' (first | exact le_refl _ | apply index_Type.s2zle | apply le_must | apply le_cond | apply le_out | refine le_bind ?_ (fun _ => ?_) | refine Fuel.le_iterF (fun _ => ?_))
theorem index_Type_le (a0 : History) (a1 : Int) : Le (Fuel.index_Type a0 a1) (index_Type a0 a1) := by
  simp only [Fuel.index_Type, index_Type]
  with_reducible repeat' (first | exact le_refl _ | apply index_Check_le | apply index_Type.s1zle | apply le_must | apply le_cond | apply le_out | refine le_bind ?_ (fun _ => ?_) | refine Fuel.le_iterF (fun _ => ?_))
theorem index_wrote.j2zle (x258 : Int) (l302 : List Int) : Le (Fuel.index_wrote.j2 x258 l302) (index_wrote.j2 x258 l302) := by
  simp only [Fuel.index_wrote.j2, index_wrote.j2]
  with_reducible repeat' (first | exact le_refl _ | apply le_must | apply le_cond | apply le_out | refine le_bind ?_ (fun _ => ?_) | refine Fuel.le_iterF (fun _ => ?_))
theorem index_wrote.j3zle (a0 : Txn) (l255 : List Int) (x258 : Int) (b329 : Bool) : Le (Fuel.index_wrote.j3 a0 l255 x258 b329) (index_wrote.j3 a0 l255 x258 b329) := by
  simp only [Fuel.index_wrote.j3, index_wrote.j3]
  with_reducible repeat' (first | exact le_refl _ | apply index_wrote.j2zle | apply le_must | apply le_cond | apply le_out | refine le_bind ?_ (fun _ => ?_) | refine Fuel.le_iterF (fun _ => ?_))
theorem index_wrote.s1zle (a0 : Txn) (a1 : Int) : ∀ (s0 : _), Le (Fuel.index_wrote.s1 a0 a1 s0) (index_wrote.s1 a0 a1 s0)
  | (l255, x258) => by
    simp only [Fuel.index_wrote.s1, index_wrote.s1]
    with_reducible repeat' (first | exact le_refl _ | apply index_wrote.j3zle | apply le_must | apply le_cond | apply le_out | refine le_bind ?_ (fun _ => ?_) | refine Fuel.le_iterF (fun _ => ?_))
theorem index_wrote_le (a0 : Txn) (a1 : Int) : Le (Fuel.index_wrote a0 a1) (index_wrote a0 a1) := by
  simp only [Fuel.index_wrote, index_wrote]
  with_reducible repeat' (first | exact le_refl _ | apply index_wrote.s1zle | apply le_must | apply le_cond | apply le_out | refine le_bind ?_ (fun _ => ?_) | refine Fuel.le_iterF (fun _ => ?_))
theorem index_Writers.j2zle (x298 : Int) (l350 : List Int) : Le (Fuel.index_Writers.j2 x298 l350) (index_Writers.j2 x298 l350) := by
  simp only [Fuel.index_Writers.j2, index_Writers.j2]
  with_reducible repeat' (first | exact le_refl _ | apply le_must | apply le_cond | apply le_out | refine le_bind ?_ (fun _ => ?_) | refine Fuel.le_iterF (fun _ => ?_))
theorem index_Writers.j3zle (l295 : List Int) (x298 : Int) (b381 : Bool) : Le (Fuel.index_Writers.j3 l295 x298 b381) (index_Writers.j3 l295 x298 b381) := by
  simp only [Fuel.index_Writers.j3, index_Writers.j3]
  with_reducible repeat' (first | exact le_refl _ | apply index_Writers.j2zle | apply le_must | apply le_cond | apply le_out | refine le_bind ?_ (fun _ => ?_) | refine Fuel.le_iterF (fun _ => ?_))
theorem index_Writers.s1zle (a0 : History) (a1 : Int) : ∀ (s0 : _), Le (Fuel.index_Writers.s1 a0 a1 s0) (index_Writers.s1 a0 a1 s0)
  | (l295, x298) => by
    simp only [Fuel.index_Writers.s1, index_Writers.s1]
    with_reducible repeat' (first | exact le_refl _ | apply index_wrote_le | apply index_Writers.j3zle | apply le_must | apply le_cond | apply le_out | refine le_bind ?_ (fun _ => ?_) | refine Fuel.le_iterF (fun _ => ?_))
theorem index_Writers_le (a0 : History) (a1 : Int) : Le (Fuel.index_Writers a0 a1) (index_Writers a0 a1) := by
  simp only [Fuel.index_Writers, index_Writers]
  with_reducible repeat' (first | exact le_refl _ | apply index_Check_le | apply index_Writers.s1zle | apply le_must | apply le_cond | apply le_out | refine le_bind ?_ (fun _ => ?_) | refine Fuel.le_iterF (fun _ => ?_))
theorem index_Final.j1zle (a0 : History) (a1 : Int) (a2 : Int) (b13 : Bool) : Le (Fuel.index_Final.j1 a0 a1 a2 b13) (index_Final.j1 a0 a1 a2 b13) := by
  simp only [Fuel.index_Final.j1, index_Final.j1]
  with_reducible repeat' (first | exact le_refl _ | apply index_wrote_le | apply le_must | apply le_cond | apply le_out | refine le_bind ?_ (fun _ => ?_) | refine Fuel.le_iterF (fun _ => ?_))
theorem index_Final_le (a0 : History) (a1 : Int) (a2 : Int) : Le (Fuel.index_Final a0 a1 a2) (index_Final a0 a1 a2) := by
  simp only [Fuel.index_Final, index_Final]
  with_reducible repeat' (first | exact le_refl _ | apply index_Check_le | apply index_Final.j1zle | apply le_must | apply le_cond | apply le_out | refine le_bind ?_ (fun _ => ?_) | refine Fuel.le_iterF (fun _ => ?_))
theorem source_finals.j2zle (x232 : Int) (l266 : List SourceFinal) : Le (Fuel.source_finals.j2 x232 l266) (source_finals.j2 x232 l266) := by
  simp only [Fuel.source_finals.j2, source_finals.j2]
  with_reducible repeat' (first | exact le_refl _ | apply le_must | apply le_cond | apply le_out | refine le_bind ?_ (fun _ => ?_) | refine Fuel.le_iterF (fun _ => ?_))
theorem source_finals.j3zle (y91 : List Int) (l229 : List SourceFinal) (x232 : Int) (y278 : List Int × Bool) (b283 : Bool) : Le (Fuel.source_finals.j3 y91 l229 x232 y278 b283) (source_finals.j3 y91 l229 x232 y278 b283) := by
  simp only [Fuel.source_finals.j3, source_finals.j3]
  with_reducible repeat' (first | exact le_refl _ | apply source_finals.j2zle | apply le_must | apply le_cond | apply le_out | refine le_bind ?_ (fun _ => ?_) | refine Fuel.le_iterF (fun _ => ?_))
theorem source_finals.s1zle (a0 : History) (a1 : Ask) (y91 : List Int) : ∀ (s0 : _), Le (Fuel.source_finals.s1 a0 a1 y91 s0) (source_finals.s1 a0 a1 y91 s0)
  | (l229, x232) => by
    simp only [Fuel.source_finals.s1, source_finals.s1]
    with_reducible repeat' (first | exact le_refl _ | apply index_Final_le | apply source_finals.j3zle | apply le_must | apply le_cond | apply le_out | refine le_bind ?_ (fun _ => ?_) | refine Fuel.le_iterF (fun _ => ?_))
theorem source_finals_le (a0 : History) (a1 : Ask) : Le (Fuel.source_finals a0 a1) (source_finals a0 a1) := by
  simp only [Fuel.source_finals, source_finals]
  with_reducible repeat' (first | exact le_refl _ | apply index_Writers_le | apply source_finals.s1zle | apply le_must | apply le_cond | apply le_out | refine le_bind ?_ (fun _ => ?_) | refine Fuel.le_iterF (fun _ => ?_))
theorem source_parts_le (a0 : History) (a1 : Ask) : Le (Fuel.source_parts a0 a1) (source_parts a0 a1) := fun _ h => nomatch h
theorem source_counter_le (a0 : Int) (a1 : List SourceFinal) : Le (Fuel.source_counter a0 a1) (source_counter a0 a1) := fun _ h => nomatch h
theorem source_sources.j1zle (l344 : List Int) : Le (Fuel.source_sources.j1 l344) (source_sources.j1 l344) := by
  simp only [Fuel.source_sources.j1, source_sources.j1]
  with_reducible repeat' (first | exact le_refl _ | apply le_must | apply le_cond | apply le_out | refine le_bind ?_ (fun _ => ?_) | refine Fuel.le_iterF (fun _ => ?_))
theorem source_sources.j2zle (a0 : History) (a1 : Ask) (l358 : List Int) : Le (Fuel.source_sources.j2 a0 a1 l358) (source_sources.j2 a0 a1 l358) := by
  simp only [Fuel.source_sources.j2, source_sources.j2]
  with_reducible repeat' (first | exact le_refl _ | apply source_finals_le | apply source_counter_le | apply source_sources.j1zle | apply le_must | apply le_cond | apply le_out | refine le_bind ?_ (fun _ => ?_) | refine Fuel.le_iterF (fun _ => ?_))
theorem source_sources.j4zle (x602 : Int) (l654 : List Int) : Le (Fuel.source_sources.j4 x602 l654) (source_sources.j4 x602 l654) := by
  simp only [Fuel.source_sources.j4, source_sources.j4]
  with_reducible repeat' (first | exact le_refl _ | apply le_must | apply le_cond | apply le_out | refine le_bind ?_ (fun _ => ?_) | refine Fuel.le_iterF (fun _ => ?_))
theorem source_sources.s3zle (a1 : Ask) (y406 : List SourceFinal) : ∀ (s0 : _), Le (Fuel.source_sources.s3 a1 y406 s0) (source_sources.s3 a1 y406 s0)
  | (l599, x602) => by
    simp only [Fuel.source_sources.s3, source_sources.s3]
    with_reducible repeat' (first | exact le_refl _ | apply source_sources.j1zle | apply source_sources.j4zle | apply le_must | apply le_cond | apply le_out | refine le_bind ?_ (fun _ => ?_) | refine Fuel.le_iterF (fun _ => ?_))
theorem source_sources_le (a0 : History) (a1 : Ask) : Le (Fuel.source_sources a0 a1) (source_sources a0 a1) := by
  simp only [Fuel.source_sources, source_sources]
  with_reducible repeat' (first | exact le_refl _ | apply index_Type_le | apply source_finals_le | apply source_parts_le | apply source_sources.j1zle | apply source_sources.j2zle | apply source_sources.s3zle | apply le_must | apply le_cond | apply le_out | refine le_bind ?_ (fun _ => ?_) | refine Fuel.le_iterF (fun _ => ?_))
theorem source_Empty_1zle (a0 : Ask) (a1 : History) : Le (Fuel.source_Empty_1 a0 a1) (source_Empty_1 a0 a1) := by
  simp only [Fuel.source_Empty_1, source_Empty_1]
  with_reducible repeat' (first | exact le_refl _ | apply source_sources_le | apply le_must | apply le_cond | apply le_out | refine le_bind ?_ (fun _ => ?_) | refine Fuel.le_iterF (fun _ => ?_))
theorem slices_IndexFunc_Ask_source_Empty_1.s1zle (a0 : List Ask) (a1c0 : History) : ∀ (s0 : _), Le (Fuel.slices_IndexFunc_Ask_source_Empty_1.s1 a0 a1c0 s0) (slices_IndexFunc_Ask_source_Empty_1.s1 a0 a1c0 s0)
  | x130 => by
    simp only [Fuel.slices_IndexFunc_Ask_source_Empty_1.s1, slices_IndexFunc_Ask_source_Empty_1.s1]
    with_reducible repeat' (first | exact le_refl _ | apply source_Empty_1zle | apply le_must | apply le_cond | apply le_out | refine le_bind ?_ (fun _ => ?_) | refine Fuel.le_iterF (fun _ => ?_) | exact hY _ _ | assumption | intro _ _)
theorem slices_IndexFunc_Ask_source_Empty_1zle (a0 : List Ask) (a1c0 : History) : Le (Fuel.slices_IndexFunc_Ask_source_Empty_1 a0 a1c0) (slices_IndexFunc_Ask_source_Empty_1 a0 a1c0) := by
  simp only [Fuel.slices_IndexFunc_Ask_source_Empty_1, slices_IndexFunc_Ask_source_Empty_1]
  with_reducible repeat' (first | exact le_refl _ | apply slices_IndexFunc_Ask_source_Empty_1.s1zle | apply le_must | apply le_cond | apply le_out | refine le_bind ?_ (fun _ => ?_) | refine Fuel.le_iterF (fun _ => ?_) | exact hY _ _ | assumption | intro _ _)
theorem slices_DeleteFunc_Ask_source_Empty_1.s1zle (a0 : List Ask) (a1c0 : History) : ∀ (s0 : _), Le (Fuel.slices_DeleteFunc_Ask_source_Empty_1.s1 a0 a1c0 s0) (slices_DeleteFunc_Ask_source_Empty_1.s1 a0 a1c0 s0)
  | (l, x) => by
    simp only [Fuel.slices_DeleteFunc_Ask_source_Empty_1.s1, slices_DeleteFunc_Ask_source_Empty_1.s1]
    with_reducible repeat' (first | exact le_refl _ | apply source_Empty_1zle | apply le_must | apply le_cond | apply le_out | refine le_bind ?_ (fun _ => ?_) | refine Fuel.le_iterF (fun _ => ?_) | exact hY _ _ | assumption | intro _ _)
theorem slices_DeleteFunc_Ask_source_Empty_1zle (a0 : List Ask) (a1c0 : History) : Le (Fuel.slices_DeleteFunc_Ask_source_Empty_1 a0 a1c0) (slices_DeleteFunc_Ask_source_Empty_1 a0 a1c0) := by
  simp only [Fuel.slices_DeleteFunc_Ask_source_Empty_1, slices_DeleteFunc_Ask_source_Empty_1]
  with_reducible repeat' (first | exact le_refl _ | apply slices_IndexFunc_Ask_source_Empty_1zle | apply slices_DeleteFunc_Ask_source_Empty_1.s1zle | apply le_must | apply le_cond | apply le_out | refine le_bind ?_ (fun _ => ?_) | refine Fuel.le_iterF (fun _ => ?_) | exact hY _ _ | assumption | intro _ _)
theorem source_Empty_le (a0 : History) : Le (Fuel.source_Empty a0) (source_Empty a0) := by
  simp only [Fuel.source_Empty, source_Empty]
  with_reducible repeat' (first | exact le_refl _ | apply local_Asks_le | apply slices_DeleteFunc_Ask_source_Empty_1zle | apply le_must | apply le_cond | apply le_out | refine le_bind ?_ (fun _ => ?_) | refine Fuel.le_iterF (fun _ => ?_) | exact hY _ _ | assumption | intro _ _)
theorem source_known_1zle (a0 : Ask) (a1 : Ask) : Le (Fuel.source_known_1 a0 a1) (source_known_1 a0 a1) := by
  simp only [Fuel.source_known_1, source_known_1]
  with_reducible repeat' (first | exact le_refl _ | apply slices_Equal_int64zle | apply le_must | apply le_cond | apply le_out | refine le_bind ?_ (fun _ => ?_) | refine Fuel.le_iterF (fun _ => ?_))
theorem slices_IndexFunc_Ask_source_known_1.s1zle (a0 : List Ask) (a1c0 : Ask) : ∀ (s0 : _), Le (Fuel.slices_IndexFunc_Ask_source_known_1.s1 a0 a1c0 s0) (slices_IndexFunc_Ask_source_known_1.s1 a0 a1c0 s0)
  | x130 => by
    simp only [Fuel.slices_IndexFunc_Ask_source_known_1.s1, slices_IndexFunc_Ask_source_known_1.s1]
    with_reducible repeat' (first | exact le_refl _ | apply source_known_1zle | apply le_must | apply le_cond | apply le_out | refine le_bind ?_ (fun _ => ?_) | refine Fuel.le_iterF (fun _ => ?_) | exact hY _ _ | assumption | intro _ _)
theorem slices_IndexFunc_Ask_source_known_1zle (a0 : List Ask) (a1c0 : Ask) : Le (Fuel.slices_IndexFunc_Ask_source_known_1 a0 a1c0) (slices_IndexFunc_Ask_source_known_1 a0 a1c0) := by
  simp only [Fuel.slices_IndexFunc_Ask_source_known_1, slices_IndexFunc_Ask_source_known_1]
  with_reducible repeat' (first | exact le_refl _ | apply slices_IndexFunc_Ask_source_known_1.s1zle | apply le_must | apply le_cond | apply le_out | refine le_bind ?_ (fun _ => ?_) | refine Fuel.le_iterF (fun _ => ?_) | exact hY _ _ | assumption | intro _ _)
theorem slices_ContainsFunc_Ask_source_known_1zle (a0 : List Ask) (a1c0 : Ask) : Le (Fuel.slices_ContainsFunc_Ask_source_known_1 a0 a1c0) (slices_ContainsFunc_Ask_source_known_1 a0 a1c0) := by
  simp only [Fuel.slices_ContainsFunc_Ask_source_known_1, slices_ContainsFunc_Ask_source_known_1]
  with_reducible repeat' (first | exact le_refl _ | apply slices_IndexFunc_Ask_source_known_1zle | apply le_must | apply le_cond | apply le_out | refine le_bind ?_ (fun _ => ?_) | refine Fuel.le_iterF (fun _ => ?_) | exact hY _ _ | assumption | intro _ _)
theorem source_known_le (a0 : History) (a1 : Ask) : Le (Fuel.source_known a0 a1) (source_known a0 a1) := by
  simp only [Fuel.source_known, source_known]
  with_reducible repeat' (first | exact le_refl _ | apply local_Asks_le | apply slices_ContainsFunc_Ask_source_known_1zle | apply le_must | apply le_cond | apply le_out | refine le_bind ?_ (fun _ => ?_) | refine Fuel.le_iterF (fun _ => ?_) | exact hY _ _ | assumption | intro _ _)
theorem source_Sources_le (a0 : History) (a1 : Ask) : Le (Fuel.source_Sources a0 a1) (source_Sources a0 a1) := by
  simp only [Fuel.source_Sources, source_Sources]
  with_reducible repeat' (first | exact le_refl _ | apply source_sources_le | apply source_known_le | apply le_must | apply le_cond | apply le_out | refine le_bind ?_ (fun _ => ?_) | refine Fuel.le_iterF (fun _ => ?_))
theorem assizelaw10zalive_le  : Le (Fuel.assizelaw10zalive) (assizelaw10zalive) := by
  simp only [Fuel.assizelaw10zalive, assizelaw10zalive]
  with_reducible repeat' (first | exact le_refl _ | apply source_Empty_le | apply source_Sources_le | apply le_must | apply le_cond | apply le_out | refine le_bind ?_ (fun _ => ?_) | refine Fuel.le_iterF (fun _ => ?_))
theorem assizelaw10zalive_true : assizelaw10zalive = some true := assizelaw10zalive_le _ (by decide +kernel)
end Go.Proofs.YtnlkggppokcmfaaT
