/- The same functions with fuel, for what they answer at fixed inputs. -/
import Derived.Test.YtmfihodpbladeaaTD
import Derived.Test.YtmfihodpbladeaaP
namespace Go.Proofs.YtmfihodpbladeaaT
open Go Go.Proofs Go.Proofs.YtmfihodpbladeaaE
set_option linter.unusedVariables false
set_option linter.unusedSimpArgs false
set_option maxHeartbeats 0
set_option maxRecDepth 4096
namespace Fuel
def iterF {σ Ω : Type} (step : σ → Option (σ ⊕ Ω)) (s : σ) : Option Ω := iterN step 4096 s
theorem le_iterF {σ Ω : Type} {f g : σ → Option (σ ⊕ Ω)} {s : σ} (h : ∀ s, Le (f s) (g s)) : Le (iterF f s) (iter g s) := le_iter h
noncomputable def slices_Index_string.s1 (a0 : List ByteArray) (a1 : ByteArray) : Int → Option (Int ⊕ Int)
  | x58 => bif decide (x58 < (a0.length : Int)) then must (0 ≤ x58 ∧ x58 < (a0.length : Int)) (bif sEq a1 (idx a0 x58) then out (some x58) else (some (.inl (w64 (x58 + 1))))) else (out (some (-1)))
noncomputable def slices_Index_string (a0 : List ByteArray) (a1 : ByteArray) : Option Int :=
  iterF (slices_Index_string.s1 a0 a1) 0
noncomputable def slices_Contains_string (a0 : List ByteArray) (a1 : ByteArray) : Option Bool :=
  (slices_Index_string a0 a1).bind fun y3 => some (decide (y3 ≥ 0))
noncomputable def index_newLedger : Option IndexLedger :=
  some (⟨([] : List ByteArray), ([] : List (ByteArray × Int)), ([] : List Int), ([] : List (IndexFact × Unit)), ([] : List (ByteArray × (List Int)))⟩ : IndexLedger)
noncomputable def wire_shape (a0 : Int) : Option (Int × Int) :=
  bif (a0 == 5) then some (0, 1) else (bif (a0 == 8) then some (1, 1) else (some (0, 64)))
noncomputable def wire_sound.j5 (a0 : Call) (x130 : Int) (b135 : Bool) : Option (Int ⊕ Bool) :=
  bif b135 then must (0 ≤ w64 (x130 - 1) ∧ w64 (x130 - 1) < (a0.Vals.length : Int)) (must (0 ≤ x130 ∧ x130 < (a0.Vals.length : Int)) (bif decide (idx a0.Vals (w64 (x130 - 1)) ≥ idx a0.Vals x130) then out (some false) else (some (.inl (w64 (x130 + 1)))))) else (out (some true))
noncomputable def wire_sound.s4 (a0 : Call) : Int → Option (Int ⊕ Bool)
  | x130 => bif (a0.Kind == 7) then wire_sound.j5 a0 x130 (decide (x130 < (a0.Vals.length : Int))) else (wire_sound.j5 a0 x130 false)
noncomputable def wire_sound.j3 (a0 : Call) (b46 : Bool) : Option Bool :=
  bif b46 then some false else (iterF (wire_sound.s4 a0) 1)
noncomputable def wire_sound.j2 (a0 : Call) (b33 : Bool) : Option Bool :=
  bif b33 then some false else (bif !a0.Got then some ((a0.Vals.length : Int) == 0) else ((wire_shape a0.Kind).bind fun y40 => bif decide ((a0.Vals.length : Int) < y40.1) then wire_sound.j3 a0 true else (wire_sound.j3 a0 (decide ((a0.Vals.length : Int) > y40.2)))))
noncomputable def wire_sound.j1 (a0 : Call) (a1 : Int) (b11 : Bool) : Option Bool :=
  bif b11 then some false else (bif decide (a0.Kind ≤ 4) then bif !a0.Got then bif ((a0.Vals.length : Int) == 0) then bif (a0.Kind != 4) then some true else (bif decide ((-1048576) ≤ a0.Arg) then some (decide (a0.Arg ≤ 1048576)) else (some false)) else (some false) else (some false) else (bif (a0.Arg != 0) then wire_sound.j2 a0 true else (wire_sound.j2 a0 (a0.Got != (a1 == 1)))))
noncomputable def wire_sound (a0 : Call) (a1 : Int) : Option Bool :=
  bif decide (a0.Kind < 1) then wire_sound.j1 a0 a1 true else (bif decide (a0.Kind > 8) then wire_sound.j1 a0 a1 true else (bif sEq a0.Key (⟨#[]⟩ : ByteArray) then wire_sound.j1 a0 a1 true else (wire_sound.j1 a0 a1 (decide ((a0.Key.size : Int) > 32)))))
noncomputable def wire_Check_1 (a0 : Call) (a1 : Event) : Option Bool :=
  (wire_sound a0 a1.Kind).bind fun y5 => some (!y5)
noncomputable def slices_IndexFunc_Call_wire_Check_1.s1 (a0 : List Call) (a1c0 : Event) : Int → Option (Int ⊕ Int)
  | x130 => bif decide (x130 < (a0.length : Int)) then must (0 ≤ x130 ∧ x130 < (a0.length : Int)) ((wire_Check_1 (idx a0 x130) a1c0).bind fun y181 => bif y181 then out (some x130) else (some (.inl (w64 (x130 + 1))))) else (out (some (-1)))
noncomputable def slices_IndexFunc_Call_wire_Check_1 (a0 : List Call) (a1c0 : Event) : Option Int :=
  iterF (slices_IndexFunc_Call_wire_Check_1.s1 a0 a1c0) 0
noncomputable def slices_ContainsFunc_Call_wire_Check_1 (a0 : List Call) (a1c0 : Event) : Option Bool :=
  (slices_IndexFunc_Call_wire_Check_1 a0 a1c0).bind fun y3 => some (decide (y3 ≥ 0))
noncomputable def wire_Check.j2 (a0 : List Event) (x172 : Int) (b239 : Bool) : Option (Int ⊕ Int) :=
  bif b239 then out (some 1) else ((slices_ContainsFunc_Call_wire_Check_1 ((idx a0 x172).Calls) (idx a0 x172)).bind fun y244 => bif y244 then out (some 1) else (some (.inl (w64 (x172 + 1)))))
noncomputable def wire_Check.s1 (a0 : List Event) : Int → Option (Int ⊕ Int)
  | x172 => bif decide (x172 < (a0.length : Int)) then must (0 ≤ x172 ∧ x172 < (a0.length : Int)) (bif decide ((idx a0 x172).Kind < 0) then wire_Check.j2 a0 x172 true else (bif decide ((idx a0 x172).Kind > 3) then wire_Check.j2 a0 x172 true else (wire_Check.j2 a0 x172 (decide ((((idx a0 x172).Calls).length : Int) > 16))))) else (out (some 0))
noncomputable def wire_Check (a0 : List Event) : Option Int :=
  bif decide ((a0.length : Int) > 256) then some 1 else (iterF (wire_Check.s1 a0) 0)
noncomputable def index_calls.j2 (a0 : History) (a1 : Txn) (l421 : List Call) (x424 : Int) : Option ((List Call × Int) ⊕ (Event × Bool)) :=
  some (.inl (l421 ++ ([(⟨(idx a1.Ops x424).Kind, idx a0.Keys ((idx a1.Ops x424).Key), (idx a1.Ops x424).Arg, (idx a1.Ops x424).Got, (idx a1.Ops x424).Vals⟩ : Call)] : List Call), w64 (x424 + 1)))
noncomputable def index_calls.j3 (a0 : History) (a1 : Txn) (l421 : List Call) (x424 : Int) (b538 : Bool) : Option ((List Call × Int) ⊕ (Event × Bool)) :=
  bif b538 then out (some ((⟨0, a1.Status, l421⟩ : Event), false)) else (must (0 ≤ (idx a1.Ops x424).Key ∧ (idx a1.Ops x424).Key < (a0.Keys.length : Int)) (must (((l421.length + 1) + (l421.length + 1) / 4 + 192) * 64 ≤ 281474976710656 ∧ l421.length + 1 ≤ 9223372036854775807) (index_calls.j2 a0 a1 l421 x424)))
noncomputable def index_calls.s1 (a0 : History) (a1 : Txn) : (List Call × Int) → Option ((List Call × Int) ⊕ (Event × Bool))
  | (l421, x424) => bif decide (x424 < (a1.Ops.length : Int)) then must (0 ≤ x424 ∧ x424 < (a1.Ops.length : Int)) (bif decide ((idx a1.Ops x424).Key < 0) then index_calls.j3 a0 a1 l421 x424 true else (index_calls.j3 a0 a1 l421 x424 (decide ((idx a1.Ops x424).Key ≥ (a0.Keys.length : Int))))) else ((wire_Check ([(⟨0, a1.Status, l421⟩ : Event)] : List Event)).bind fun y574 => out (some ((⟨0, a1.Status, l421⟩ : Event), (y574 == 0))))
noncomputable def index_calls (a0 : History) (a1 : Txn) : Option (Event × Bool) :=
  iterF (index_calls.s1 a0 a1) ([], 0)
noncomputable def index_placed_1 (a0 : Txn) (a1 : Txn) : Option Bool :=
  bif (a0.Proc == a1.Proc) then bif (a0.To == (-1)) then some true else (some (decide (a0.To ≥ a1.From))) else (some false)
noncomputable def slices_IndexFunc_Txn_index_placed_1.s1 (a0 : List Txn) (a1c0 : Txn) : Int → Option (Int ⊕ Int)
  | x130 => bif decide (x130 < (a0.length : Int)) then must (0 ≤ x130 ∧ x130 < (a0.length : Int)) ((index_placed_1 (idx a0 x130) a1c0).bind fun y181 => bif y181 then out (some x130) else (some (.inl (w64 (x130 + 1))))) else (out (some (-1)))
noncomputable def slices_IndexFunc_Txn_index_placed_1 (a0 : List Txn) (a1c0 : Txn) : Option Int :=
  iterF (slices_IndexFunc_Txn_index_placed_1.s1 a0 a1c0) 0
noncomputable def slices_ContainsFunc_Txn_index_placed_1 (a0 : List Txn) (a1c0 : Txn) : Option Bool :=
  (slices_IndexFunc_Txn_index_placed_1 a0 a1c0).bind fun y3 => some (decide (y3 ≥ 0))
noncomputable def index_placed.j2 (a0 : List Txn) (a1 : Txn) (b46 : Bool) : Option Bool :=
  bif b46 then some false else ((slices_ContainsFunc_Txn_index_placed_1 a0 a1).bind fun y51 => some (!y51))
noncomputable def index_placed.j1 (a0 : List Txn) (a1 : Txn) : Option Bool :=
  bif decide (a1.From < 0) then index_placed.j2 a0 a1 true else (bif decide ((a0.length : Int) > 0) then must (0 ≤ w64 ((a0.length : Int) - 1) ∧ w64 ((a0.length : Int) - 1) < (a0.length : Int)) (index_placed.j2 a0 a1 (decide ((idx a0 (w64 ((a0.length : Int) - 1))).From ≥ a1.From))) else (index_placed.j2 a0 a1 false))
noncomputable def index_placed.j4 (a0 : List Txn) (a1 : Txn) (b72 : Bool) : Option Bool :=
  bif b72 then some false else (index_placed.j1 a0 a1)
noncomputable def index_placed.j3 (a0 : List Txn) (a1 : Txn) (b66 : Bool) : Option Bool :=
  bif b66 then bif decide (a1.To ≤ a1.From) then some false else (index_placed.j1 a0 a1) else (bif (a1.Status == 3) then bif (a1.To != (-1)) then index_placed.j4 a0 a1 (decide (a1.To ≤ a1.From)) else (index_placed.j4 a0 a1 false) else (some false))
noncomputable def index_placed (a0 : List Txn) (a1 : Txn) : Option Bool :=
  bif (a1.Status == 1) then index_placed.j3 a0 a1 (a1.Status == 1) else (index_placed.j3 a0 a1 (a1.Status == 2))
noncomputable def index_typeOf (a0 : Int) : Option Int :=
  some (w64 ((bAnd .i64 (w64 (a0 - 1)) 3) + 1))
noncomputable def index_ledger_enter.j2 (l59 : List ByteArray) (m62 : List (ByteArray × Int)) (l63 : List Int) (m152 : List (IndexFact × Unit)) (m153 : List (ByteArray × (List Int))) : Option (Int × IndexLedger) :=
  some (0, (⟨l59, m62, l63, m152, m153⟩ : IndexLedger))
noncomputable def index_ledger_enter.j4 (a0 : IndexLedger) (a1 : Call) (l59 : List ByteArray) (m62 : List (ByteArray × Int)) (l63 : List Int) : Option (Int × IndexLedger) :=
  bif mhas a0.facts (⟨a1.Key, a1.Arg⟩ : IndexFact) then some (3, (⟨l59, m62, l63, a0.facts, a0.incs⟩ : IndexLedger)) else (index_ledger_enter.j2 l59 m62 l63 (mput a0.facts (⟨a1.Key, a1.Arg⟩ : IndexFact) ()) a0.incs)
noncomputable def index_ledger_enter.j5 (a0 : IndexLedger) (a1 : Call) (l59 : List ByteArray) (m62 : List (ByteArray × Int)) (l63 : List Int) (m196 : List (ByteArray × (List Int))) : Option (Int × IndexLedger) :=
  bif decide (((mat m196 a1.Key).length : Int) > 8) then some (51, (⟨l59, m62, l63, a0.facts, m196⟩ : IndexLedger)) else (index_ledger_enter.j2 l59 m62 l63 a0.facts m196)
noncomputable def index_ledger_enter.j6 (a0 : IndexLedger) (a1 : Call) (a2 : Int) (l59 : List ByteArray) (m62 : List (ByteArray × Int)) (l63 : List Int) (b223 : Bool) : Option (Int × IndexLedger) :=
  bif b223 then must (((((mat a0.incs a1.Key).length) + 1) + (((mat a0.incs a1.Key).length) + 1) / 4 + 192) * 8 ≤ 281474976710656 ∧ ((mat a0.incs a1.Key).length) + 1 ≤ 9223372036854775807) (index_ledger_enter.j5 a0 a1 l59 m62 l63 (mput a0.incs a1.Key ((mat a0.incs a1.Key) ++ ([a2] : List Int)))) else (index_ledger_enter.j5 a0 a1 l59 m62 l63 a0.incs)
noncomputable def index_ledger_enter.j3 (a0 : IndexLedger) (a1 : Call) (a2 : Int) (l59 : List ByteArray) (m62 : List (ByteArray × Int)) (l63 : List Int) (b156 : Bool) : Option (Int × IndexLedger) :=
  bif b156 then index_ledger_enter.j4 a0 a1 l59 m62 l63 else (bif (a1.Kind == 4) then bif (((mat a0.incs a1.Key).length : Int) == 0) then index_ledger_enter.j6 a0 a1 a2 l59 m62 l63 true else (must (0 ≤ w64 (((mat a0.incs a1.Key).length : Int) - 1) ∧ w64 (((mat a0.incs a1.Key).length : Int) - 1) < ((mat a0.incs a1.Key).length : Int)) (index_ledger_enter.j6 a0 a1 a2 l59 m62 l63 (idx (mat a0.incs a1.Key) (w64 (((mat a0.incs a1.Key).length : Int) - 1)) != a2))) else (index_ledger_enter.j2 l59 m62 l63 a0.facts a0.incs))
noncomputable def index_ledger_enter.j1 (a0 : IndexLedger) (a1 : Call) (a2 : Int) (l59 : List ByteArray) (m62 : List (ByteArray × Int)) (l63 : List Int) (x66 : Int) : Option (Int × IndexLedger) :=
  must (0 ≤ x66 ∧ x66 < (l63.length : Int)) ((index_typeOf a1.Kind).bind fun y79 => bif (idx l63 x66 != y79) then some (50, (⟨l59, m62, l63, a0.facts, a0.incs⟩ : IndexLedger)) else (bif (a1.Kind == 2) then index_ledger_enter.j3 a0 a1 a2 l59 m62 l63 (a1.Kind == 2) else (index_ledger_enter.j3 a0 a1 a2 l59 m62 l63 (a1.Kind == 3))))
noncomputable def index_ledger_enter.j7 (a0 : IndexLedger) (a1 : Call) (a2 : Int) : Option (Int × IndexLedger) :=
  (index_typeOf a1.Kind).bind fun y263 => must (((a0.types.length + 1) + (a0.types.length + 1) / 4 + 192) * 8 ≤ 281474976710656 ∧ a0.types.length + 1 ≤ 9223372036854775807) (index_ledger_enter.j1 a0 a1 a2 (a0.keys ++ ([a1.Key] : List ByteArray)) (mput a0.at_ a1.Key (a0.keys.length : Int)) (a0.types ++ ([y263] : List Int)) (a0.keys.length : Int))
noncomputable def index_ledger_enter (a0 : IndexLedger) (a1 : Call) (a2 : Int) : Option (Int × IndexLedger) :=
  bif !(mhas a0.at_ a1.Key) then bif ((a0.keys.length : Int) == 32) then some (2, a0) else (must (((a0.keys.length + 1) + (a0.keys.length + 1) / 4 + 192) * 16 ≤ 281474976710656 ∧ a0.keys.length + 1 ≤ 9223372036854775807) (index_ledger_enter.j7 a0 a1 a2)) else (index_ledger_enter.j1 a0 a1 a2 a0.keys a0.at_ a0.types (mat a0.at_ a1.Key))
noncomputable def index_Check.j3 (x147 : Int) (b193 : Bool) : Option (Int ⊕ Int) :=
  bif b193 then out (some 1) else (some (.inl (w64 (x147 + 1))))
noncomputable def index_Check.s6 (x1922 : Int) (y2316 : Event × Bool) : (List ByteArray × (List (ByteArray × Int)) × List Int × (List (IndexFact × Unit)) × (List (ByteArray × (List Int))) × Int) → Option ((List ByteArray × (List (ByteArray × Int)) × List Int × (List (IndexFact × Unit)) × (List (ByteArray × (List Int))) × Int) ⊕ ((List ByteArray × (List (ByteArray × Int)) × List Int × (List (IndexFact × Unit)) × (List (ByteArray × (List Int))) × Int) ⊕ (Int ⊕ Int)))
  | (l2615, m2618, l2620, m2623, m2625, x2627) => bif decide (x2627 < (y2316.1.Calls.length : Int)) then must (0 ≤ x2627 ∧ x2627 < (y2316.1.Calls.length : Int)) ((index_ledger_enter (⟨l2615, m2618, l2620, m2623, m2625⟩ : IndexLedger) (idx y2316.1.Calls x2627) x1922).bind fun y2719 => bif (y2719.1 != 0) then out (out (out (some 1))) else (some (.inl (y2719.2.keys, y2719.2.at_, y2719.2.types, y2719.2.facts, y2719.2.incs, w64 (x2627 + 1))))) else (out (some (.inl (l2615, m2618, l2620, m2623, m2625, w64 (x1922 + 1)))))
noncomputable def index_Check.j5 (l1910 : List ByteArray) (m1913 : List (ByteArray × Int)) (l1915 : List Int) (m1918 : List (IndexFact × Unit)) (m1920 : List (ByteArray × (List Int))) (x1922 : Int) (y2316 : Event × Bool) (b2339 : Bool) : Option ((List ByteArray × (List (ByteArray × Int)) × List Int × (List (IndexFact × Unit)) × (List (ByteArray × (List Int))) × Int) ⊕ (Int ⊕ Int)) :=
  bif b2339 then out (out (some 1)) else (iterF (index_Check.s6 x1922 y2316) (l1910, m1913, l1915, m1918, m1920, 0))
noncomputable def index_Check.s4 (a0 : History) : (List ByteArray × (List (ByteArray × Int)) × List Int × (List (IndexFact × Unit)) × (List (ByteArray × (List Int))) × Int) → Option ((List ByteArray × (List (ByteArray × Int)) × List Int × (List (IndexFact × Unit)) × (List (ByteArray × (List Int))) × Int) ⊕ (Int ⊕ Int))
  | (l1910, m1913, l1915, m1918, m1920, x1922) => bif decide (x1922 < (a0.Txns.length : Int)) then must (0 ≤ x1922 ∧ x1922 < (a0.Txns.length : Int)) ((index_calls a0 (idx a0.Txns x1922)).bind fun y2316 => bif !y2316.2 then index_Check.j5 l1910 m1913 l1915 m1918 m1920 x1922 y2316 true else (must (0 ≤ (0 : Int) ∧ (0 : Int) ≤ x1922 ∧ x1922 ≤ (a0.Txns.length : Int)) ((index_placed (subl a0.Txns (0 : Int) x1922) (idx a0.Txns x1922)).bind fun y2735 => index_Check.j5 l1910 m1913 l1915 m1918 m1920 x1922 y2316 (!y2735)))) else (out (out (some 0)))
noncomputable def index_Check.s2 (a0 : History) : Int → Option (Int ⊕ Int)
  | x147 => bif decide (x147 < (a0.Keys.length : Int)) then must (0 ≤ x147 ∧ x147 < (a0.Keys.length : Int)) (bif sEq (idx a0.Keys x147) (⟨#[]⟩ : ByteArray) then index_Check.j3 x147 true else (bif decide (((idx a0.Keys x147).size : Int) > 32) then index_Check.j3 x147 true else (must (0 ≤ (0 : Int) ∧ (0 : Int) ≤ x147 ∧ x147 ≤ (a0.Keys.length : Int)) ((slices_Contains_string (subl a0.Keys (0 : Int) x147) (idx a0.Keys x147)).bind fun y203 => index_Check.j3 x147 y203)))) else ((index_newLedger).bind fun y215 => iterF (index_Check.s4 a0) (y215.keys, y215.at_, y215.types, y215.facts, y215.incs, 0))
noncomputable def index_Check.j1 (a0 : History) (b7 : Bool) : Option Int :=
  bif b7 then some 1 else (iterF (index_Check.s2 a0) 0)
noncomputable def index_Check (a0 : History) : Option Int :=
  bif decide ((a0.Keys.length : Int) > 32) then index_Check.j1 a0 true else (index_Check.j1 a0 (decide ((a0.Txns.length : Int) > 32)))
noncomputable def state_of (a0 : Int) : Option Int :=
  bif (a0 == 1) then some 83 else (bif (a0 == 2) then some 84 else (bif (a0 == 3) then some 85 else (bif (a0 == 4) then some 86 else (some (-1)))))
noncomputable def state_register_sound (a0 : Unit) (a1 : List Int) : Option Bool :=
  some (decide ((a1.length : Int) ≤ 1))
noncomputable def state_list_sound (a0 : Unit) (a1 : List Int) : Option Bool :=
  some (decide ((a1.length : Int) ≤ 64))
noncomputable def state_set_sound.s1 (a1 : List Int) : Int → Option (Int ⊕ Bool)
  | x68 => bif decide (x68 < (a1.length : Int)) then must (0 ≤ w64 (x68 - 1) ∧ w64 (x68 - 1) < (a1.length : Int)) (must (0 ≤ x68 ∧ x68 < (a1.length : Int)) (bif decide (idx a1 (w64 (x68 - 1)) ≥ idx a1 x68) then out (some false) else (some (.inl (w64 (x68 + 1)))))) else (out (some (decide ((a1.length : Int) ≤ 64))))
noncomputable def state_set_sound (a0 : Unit) (a1 : List Int) : Option Bool :=
  iterF (state_set_sound.s1 a1) 1
noncomputable def state_counter_sound (a0 : Unit) (a1 : List Int) : Option Bool :=
  some ((a1.length : Int) == 1)
noncomputable def state_Check (a0 : Int) (a1 : List Int) : Option Int :=
  (state_of a0).bind fun y8 => bif (y8 == (83 : Int)) then (state_register_sound () a1).bind fun y19 => bif !y19 then some 80 else (some 0) else (bif (y8 == (84 : Int)) then (state_list_sound () a1).bind fun y31 => bif !y31 then some 80 else (some 0) else (bif (y8 == (85 : Int)) then (state_set_sound () a1).bind fun y43 => bif !y43 then some 80 else (some 0) else (bif (y8 == (86 : Int)) then (state_counter_sound () a1).bind fun y55 => bif !y55 then some 80 else (some 0) else (bif (y8 == ((-1) : Int)) then some 1 else none))))
noncomputable def state_register_without (a0 : Unit) (a1 : List Int) (a2 : List Int) : Option (List Int × Bool) :=
  bif ((a1.length : Int) == 1) then must (0 ≤ (0 : Int) ∧ (0 : Int) < (a1.length : Int)) (must (0 ≤ w64 ((a2.length : Int) - 1) ∧ w64 ((a2.length : Int) - 1) < (a2.length : Int)) (some (([] : List Int), (idx a1 (0 : Int) == idx a2 (w64 ((a2.length : Int) - 1)))))) else (some (([] : List Int), false))
noncomputable def slices_Clone_int64 (a0 : List Int) : Option (List Int) :=
  must (a0.length * 8 ≤ 140737488355328) (some a0)
noncomputable def slices_Equal_int64.s1 (a0 : List Int) (a1 : List Int) : Int → Option (Int ⊕ Bool)
  | x84 => bif decide (x84 < (a0.length : Int)) then must (0 ≤ x84 ∧ x84 < (a0.length : Int)) (must (0 ≤ x84 ∧ x84 < (a1.length : Int)) (bif (idx a0 x84 != idx a1 x84) then out (some false) else (some (.inl (w64 (x84 + 1)))))) else (out (some true))
noncomputable def slices_Equal_int64 (a0 : List Int) (a1 : List Int) : Option Bool :=
  bif ((a0.length : Int) != (a1.length : Int)) then some false else (iterF (slices_Equal_int64.s1 a0 a1) 0)
noncomputable def state_list_without.j1 (a1 : List Int) (a2 : List Int) (b21 : Bool) : Option (List Int × Bool) :=
  bif b21 then some (([] : List Int), false) else (must (0 ≤ (0 : Int) ∧ (0 : Int) ≤ (w64 ((a1.length : Int) - (a2.length : Int))) ∧ (w64 ((a1.length : Int) - (a2.length : Int))) ≤ (a1.length : Int)) ((slices_Clone_int64 (subl a1 (0 : Int) (w64 ((a1.length : Int) - (a2.length : Int))))).bind fun y38 => some (y38, true)))
noncomputable def state_list_without (a0 : Unit) (a1 : List Int) (a2 : List Int) : Option (List Int × Bool) :=
  bif decide (w64 ((a1.length : Int) - (a2.length : Int)) < 0) then state_list_without.j1 a1 a2 true else (must (0 ≤ (w64 ((a1.length : Int) - (a2.length : Int))) ∧ (w64 ((a1.length : Int) - (a2.length : Int))) ≤ (a1.length : Int) ∧ (a1.length : Int) ≤ (a1.length : Int)) ((slices_Equal_int64 (subl a1 (w64 ((a1.length : Int) - (a2.length : Int))) (a1.length : Int)) a2).bind fun y48 => state_list_without.j1 a1 a2 (!y48)))
noncomputable def cmp_isNaN_int64 (a0 : Int) : Option Bool :=
  some (a0 != a0)
noncomputable def cmp_Less_int64 (a0 : Int) (a1 : Int) : Option Bool :=
  (cmp_isNaN_int64 a0).bind fun y7 => bif y7 then (cmp_isNaN_int64 a1).bind fun y10 => bif !y10 then some true else (some (decide (a0 < a1))) else (some (decide (a0 < a1)))
noncomputable def slices_isNaN_int64 (a0 : Int) : Option Bool :=
  some (a0 != a0)
noncomputable def slices_BinarySearch_int64.j2 (x126 : Int) (x127 : Int) : Option ((Int × Int) ⊕ (Int × Bool)) :=
  some (.inl (x126, x127))
noncomputable def slices_BinarySearch_int64.s1 (a0 : List Int) (a1 : Int) : (Int × Int) → Option ((Int × Int) ⊕ (Int × Bool))
  | (x115, x116) => bif decide (x115 < x116) then must (0 ≤ (1 : Int) ∧ (1 : Int) < (far : Int)) (must (0 ≤ w64 (sShr .u64 (IntKind.wrap .u64 (w64 (x115 + x116))) (1 : Int)) ∧ w64 (sShr .u64 (IntKind.wrap .u64 (w64 (x115 + x116))) (1 : Int)) < (a0.length : Int)) ((cmp_Less_int64 (idx a0 (w64 (sShr .u64 (IntKind.wrap .u64 (w64 (x115 + x116))) (1 : Int)))) a1).bind fun y139 => bif y139 then slices_BinarySearch_int64.j2 (w64 ((w64 (sShr .u64 (IntKind.wrap .u64 (w64 (x115 + x116))) (1 : Int))) + 1)) x116 else (slices_BinarySearch_int64.j2 x115 (w64 (sShr .u64 (IntKind.wrap .u64 (w64 (x115 + x116))) (1 : Int)))))) else (bif decide (x115 < (a0.length : Int)) then must (0 ≤ x115 ∧ x115 < (a0.length : Int)) (bif (idx a0 x115 == a1) then out (some (x115, true)) else ((slices_isNaN_int64 (idx a0 x115)).bind fun y157 => bif y157 then (slices_isNaN_int64 a1).bind fun y160 => out (some (x115, y160)) else (out (some (x115, false))))) else (out (some (x115, false))))
noncomputable def slices_BinarySearch_int64 (a0 : List Int) (a1 : Int) : Option (Int × Bool) :=
  iterF (slices_BinarySearch_int64.s1 a0 a1) (0, (a0.length : Int))
noncomputable def slices_Delete_int64 (a0 : List Int) (a1 a2 : Int) : Option (List Int) :=
  must (0 ≤ a1 ∧ a1 ≤ a2 ∧ a2 ≤ (a0.length : Int)) (some (a0.take a1.toNat ++ a0.drop a2.toNat))
noncomputable def state_set_without.s1 (a2 : List Int) : (List Int × Int) → Option ((List Int × Int) ⊕ (List Int × Bool))
  | (l207, x210) => bif decide (x210 < (a2.length : Int)) then must (0 ≤ x210 ∧ x210 < (a2.length : Int)) ((slices_BinarySearch_int64 l207 (idx a2 x210)).bind fun y251 => bif !y251.2 then out (some (([] : List Int), false)) else ((slices_Delete_int64 l207 y251.1 (w64 (y251.1 + 1))).bind fun y260 => some (.inl (y260, w64 (x210 + 1))))) else (out (some (l207, true)))
noncomputable def state_set_without (a0 : Unit) (a1 : List Int) (a2 : List Int) : Option (List Int × Bool) :=
  (slices_Clone_int64 a1).bind fun y7 => iterF (state_set_without.s1 a2) (y7, 0)
noncomputable def state_counter_without.s1 (a2 : List Int) : (Int × Int) → Option ((Int × Int) ⊕ (List Int × Bool))
  | (x75, x76) => bif decide (x76 < (a2.length : Int)) then must (0 ≤ x76 ∧ x76 < (a2.length : Int)) (some (.inl (w64 (x75 - (idx a2 x76)), w64 (x76 + 1)))) else (out (some (([x75] : List Int), true)))
noncomputable def state_counter_without (a0 : Unit) (a1 : List Int) (a2 : List Int) : Option (List Int × Bool) :=
  must (0 ≤ (0 : Int) ∧ (0 : Int) < (a1.length : Int)) (iterF (state_counter_without.s1 a2) (idx a1 (0 : Int), 0))
noncomputable def state_Before.j1 (a0 : Int) (a1 : List Int) (a2 : List Int) (b9 : Bool) : Option (List Int × Bool) :=
  bif b9 then some (([] : List Int), false) else ((state_of a0).bind fun y35 => bif (y35 == (83 : Int)) then (state_register_without () a1 a2).bind fun y38 => some (y38.1, y38.2) else (bif (y35 == (84 : Int)) then (state_list_without () a1 a2).bind fun y43 => some (y43.1, y43.2) else (bif (y35 == (85 : Int)) then (state_set_without () a1 a2).bind fun y48 => some (y48.1, y48.2) else (bif (y35 == (86 : Int)) then (state_counter_without () a1 a2).bind fun y53 => some (y53.1, y53.2) else (bif (y35 == ((-1) : Int)) then none else none)))))
noncomputable def state_Before (a0 : Int) (a1 : List Int) (a2 : List Int) : Option (List Int × Bool) :=
  (state_Check a0 a1).bind fun y58 => bif (y58 != 0) then state_Before.j1 a0 a1 a2 true else (state_Before.j1 a0 a1 a2 ((a2.length : Int) == 0))
noncomputable def local_found_look.j2 (x716 : Int) (l938 : List Ask) (l941 : List Spot) (m944 : List (Int × (List Int))) : Option ((List Ask × List Spot × (List (Int × (List Int))) × Int) ⊕ LocalFound) :=
  some (.inl (l938, l941, m944, w64 (x716 + 1)))
noncomputable def local_found_look.j3 (a1 : History) (a2 : Int) (l709 : List Ask) (l712 : List Spot) (m715 : List (Int × (List Int))) (x716 : Int) (l1129 : List Int) (b1132 : Bool) : Option ((List Ask × List Spot × (List (Int × (List Int))) × Int) ⊕ LocalFound) :=
  bif !b1132 then must (((l712.length + 1) + (l712.length + 1) / 4 + 192) * 16 ≤ 281474976710656 ∧ l712.length + 1 ≤ 9223372036854775807) (local_found_look.j2 x716 l709 (l712 ++ ([(⟨a2, x716⟩ : Spot)] : List Spot)) m715) else (must (((l709.length + 1) + (l709.length + 1) / 4 + 192) * 48 ≤ 281474976710656 ∧ l709.length + 1 ≤ 9223372036854775807) (local_found_look.j2 x716 (l709 ++ ([(⟨a2, x716, (idx ((idx a1.Txns a2).Ops) x716).Key, l1129⟩ : Ask)] : List Ask)) l712 m715))
noncomputable def local_found_look.j4 (a1 : History) (a2 : Int) (l709 : List Ask) (l712 : List Spot) (m715 : List (Int × (List Int))) (x716 : Int) (y1187 : List Int × Bool) (b1192 : Bool) : Option ((List Ask × List Spot × (List (Int × (List Int))) × Int) ⊕ LocalFound) :=
  bif b1192 then local_found_look.j2 x716 l709 l712 m715 else (local_found_look.j3 a1 a2 l709 l712 m715 x716 y1187.1 y1187.2)
noncomputable def local_found_look.s1 (a1 : History) (a2 : Int) : (List Ask × List Spot × (List (Int × (List Int))) × Int) → Option ((List Ask × List Spot × (List (Int × (List Int))) × Int) ⊕ LocalFound)
  | (l709, l712, m715, x716) => bif decide (x716 < (((idx a1.Txns a2).Ops).length : Int)) then must (0 ≤ x716 ∧ x716 < (((idx a1.Txns a2).Ops).length : Int)) (bif decide ((idx ((idx a1.Txns a2).Ops) x716).Kind ≤ 4) then must (((((mat m715 ((idx ((idx a1.Txns a2).Ops) x716).Key)).length) + 1) + (((mat m715 ((idx ((idx a1.Txns a2).Ops) x716).Key)).length) + 1) / 4 + 192) * 8 ≤ 281474976710656 ∧ ((mat m715 ((idx ((idx a1.Txns a2).Ops) x716).Key)).length) + 1 ≤ 9223372036854775807) (local_found_look.j2 x716 l709 l712 (mput m715 ((idx ((idx a1.Txns a2).Ops) x716).Key) ((mat m715 ((idx ((idx a1.Txns a2).Ops) x716).Key)) ++ ([(idx ((idx a1.Txns a2).Ops) x716).Arg] : List Int)))) else ((slices_Clone_int64 ((idx ((idx a1.Txns a2).Ops) x716).Vals)).bind fun y1112 => bif decide (((mat m715 ((idx ((idx a1.Txns a2).Ops) x716).Key)).length : Int) > 0) then (state_Before (w64 (((idx ((idx a1.Txns a2).Ops) x716).Kind) - 4)) ((idx ((idx a1.Txns a2).Ops) x716).Vals) (mat m715 ((idx ((idx a1.Txns a2).Ops) x716).Key))).bind fun y1187 => bif y1187.2 then local_found_look.j4 a1 a2 l709 l712 m715 x716 y1187 ((idx ((idx a1.Txns a2).Ops) x716).Kind == 5) else (local_found_look.j4 a1 a2 l709 l712 m715 x716 y1187 false) else (local_found_look.j3 a1 a2 l709 l712 m715 x716 y1112 true))) else (out (some (⟨l709, l712⟩ : LocalFound)))
noncomputable def local_found_look (a0 : LocalFound) (a1 : History) (a2 : Int) : Option LocalFound :=
  must (0 ≤ a2 ∧ a2 < (a1.Txns.length : Int)) (bif ((idx a1.Txns a2).Status != 1) then some a0 else (iterF (local_found_look.s1 a1 a2) (a0.asks, a0.bad, [], 0)))
noncomputable def local_Look.j1 (a0 : History) (a1 : Int) (b15 : Bool) : Option (List Ask × List Spot × Int) :=
  bif b15 then some (([] : List Ask), ([] : List Spot), 1) else ((local_found_look (⟨([] : List Ask), ([] : List Spot)⟩ : LocalFound) a0 a1).bind fun y36 => some (y36.asks, y36.bad, 0))
noncomputable def local_Look (a0 : History) (a1 : Int) : Option (List Ask × List Spot × Int) :=
  (index_Check a0).bind fun y11 => bif (y11 != 0) then local_Look.j1 a0 a1 true else (bif decide (a1 < 0) then local_Look.j1 a0 a1 true else (local_Look.j1 a0 a1 (decide (a1 ≥ (a0.Txns.length : Int)))))
noncomputable def assizelaw09zalive : Option Bool :=
  (local_Look (⟨([(⟨#[108]⟩ : ByteArray)] : List ByteArray), ([(⟨0, 1, 0, 1, ([(⟨2, 0, 5, false, ([] : List Int)⟩ : Op), (⟨6, 0, 0, true, ([3, 5] : List Int)⟩ : Op), (⟨6, 0, 0, true, ([5, 3] : List Int)⟩ : Op)] : List Op)⟩ : Txn)] : List Txn)⟩ : History) 0).bind fun y29 => bif (y29.2.2 == 0) then bif ((y29.1.length : Int) == 1) then must (0 ≤ (0 : Int) ∧ (0 : Int) < (y29.1.length : Int)) (bif ((((idx y29.1 (0 : Int)).Base).length : Int) == 1) then must (0 ≤ (0 : Int) ∧ (0 : Int) < (((idx y29.1 (0 : Int)).Base).length : Int)) (bif (idx ((idx y29.1 (0 : Int)).Base) (0 : Int) == 3) then bif ((y29.2.1.length : Int) == 1) then must (0 ≤ (0 : Int) ∧ (0 : Int) < (y29.2.1.length : Int)) (some (((idx y29.2.1 (0 : Int)).Txn == 0) && (((idx y29.2.1 (0 : Int)).Place == 2) && true))) else (some false) else (some false)) else (some false)) else (some false) else (some false)
end Fuel
theorem slices_Index_string.s1zle (a0 : List ByteArray) (a1 : ByteArray) (s : _) : Le (Fuel.slices_Index_string.s1 a0 a1 s) (slices_Index_string.s1 a0 a1 s) := by
  simp only [Fuel.slices_Index_string.s1, slices_Index_string.s1]
  repeat' (first | with_reducible exact le_refl _ | with_reducible apply le_must | with_reducible apply le_cond | with_reducible apply le_out | with_reducible refine le_bind ?_ (fun _ => ?_) | with_reducible refine Fuel.le_iterF (fun _ => ?_))

theorem slices_Index_string_le (a0 : List ByteArray) (a1 : ByteArray) : Le (Fuel.slices_Index_string a0 a1) (slices_Index_string a0 a1) := by
  simp only [Fuel.slices_Index_string, slices_Index_string]
  repeat' (first | with_reducible exact le_refl _ | with_reducible apply slices_Index_string.s1zle | with_reducible apply le_must | with_reducible apply le_cond | with_reducible apply le_out | with_reducible refine le_bind ?_ (fun _ => ?_) | with_reducible refine Fuel.le_iterF (fun _ => ?_))

theorem slices_Contains_string_le (a0 : List ByteArray) (a1 : ByteArray) : Le (Fuel.slices_Contains_string a0 a1) (slices_Contains_string a0 a1) := by
  simp only [Fuel.slices_Contains_string, slices_Contains_string]
  repeat' (first | with_reducible exact le_refl _ | with_reducible apply slices_Index_string_le | with_reducible apply le_must | with_reducible apply le_cond | with_reducible apply le_out | with_reducible refine le_bind ?_ (fun _ => ?_) | with_reducible refine Fuel.le_iterF (fun _ => ?_))

theorem index_newLedger_le  : Le (Fuel.index_newLedger) (index_newLedger) := by
  simp only [Fuel.index_newLedger, index_newLedger]
  repeat' (first | with_reducible exact le_refl _ | with_reducible apply le_must | with_reducible apply le_cond | with_reducible apply le_out | with_reducible refine le_bind ?_ (fun _ => ?_) | with_reducible refine Fuel.le_iterF (fun _ => ?_))

theorem wire_shape_le (a0 : Int) : Le (Fuel.wire_shape a0) (wire_shape a0) := by
  simp only [Fuel.wire_shape, wire_shape]
  repeat' (first | with_reducible exact le_refl _ | with_reducible apply le_must | with_reducible apply le_cond | with_reducible apply le_out | with_reducible refine le_bind ?_ (fun _ => ?_) | with_reducible refine Fuel.le_iterF (fun _ => ?_))

theorem wire_sound.j5zle (a0 : Call) (x130 : Int) (b135 : Bool) : Le (Fuel.wire_sound.j5 a0 x130 b135) (wire_sound.j5 a0 x130 b135) := by
  simp only [Fuel.wire_sound.j5, wire_sound.j5]
  repeat' (first | with_reducible exact le_refl _ | with_reducible apply le_must | with_reducible apply le_cond | with_reducible apply le_out | with_reducible refine le_bind ?_ (fun _ => ?_) | with_reducible refine Fuel.le_iterF (fun _ => ?_))

theorem wire_sound.s4zle (a0 : Call) (s : _) : Le (Fuel.wire_sound.s4 a0 s) (wire_sound.s4 a0 s) := by
  simp only [Fuel.wire_sound.s4, wire_sound.s4]
  repeat' (first | with_reducible exact le_refl _ | with_reducible apply wire_sound.j5zle | with_reducible apply le_must | with_reducible apply le_cond | with_reducible apply le_out | with_reducible refine le_bind ?_ (fun _ => ?_) | with_reducible refine Fuel.le_iterF (fun _ => ?_))

theorem wire_sound.j3zle (a0 : Call) (b46 : Bool) : Le (Fuel.wire_sound.j3 a0 b46) (wire_sound.j3 a0 b46) := by
  simp only [Fuel.wire_sound.j3, wire_sound.j3]
  repeat' (first | with_reducible exact le_refl _ | with_reducible apply wire_sound.s4zle | with_reducible apply le_must | with_reducible apply le_cond | with_reducible apply le_out | with_reducible refine le_bind ?_ (fun _ => ?_) | with_reducible refine Fuel.le_iterF (fun _ => ?_))

theorem wire_sound.j2zle (a0 : Call) (b33 : Bool) : Le (Fuel.wire_sound.j2 a0 b33) (wire_sound.j2 a0 b33) := by
  simp only [Fuel.wire_sound.j2, wire_sound.j2]
  repeat' (first | with_reducible exact le_refl _ | with_reducible apply wire_shape_le | with_reducible apply wire_sound.j3zle | with_reducible apply le_must | with_reducible apply le_cond | with_reducible apply le_out | with_reducible refine le_bind ?_ (fun _ => ?_) | with_reducible refine Fuel.le_iterF (fun _ => ?_))

theorem wire_sound.j1zle (a0 : Call) (a1 : Int) (b11 : Bool) : Le (Fuel.wire_sound.j1 a0 a1 b11) (wire_sound.j1 a0 a1 b11) := by
  simp only [Fuel.wire_sound.j1, wire_sound.j1]
  repeat' (first | with_reducible exact le_refl _ | with_reducible apply wire_sound.j2zle | with_reducible apply le_must | with_reducible apply le_cond | with_reducible apply le_out | with_reducible refine le_bind ?_ (fun _ => ?_) | with_reducible refine Fuel.le_iterF (fun _ => ?_))

theorem wire_sound_le (a0 : Call) (a1 : Int) : Le (Fuel.wire_sound a0 a1) (wire_sound a0 a1) := by
  simp only [Fuel.wire_sound, wire_sound]
  repeat' (first | with_reducible exact le_refl _ | with_reducible apply wire_sound.j1zle | with_reducible apply le_must | with_reducible apply le_cond | with_reducible apply le_out | with_reducible refine le_bind ?_ (fun _ => ?_) | with_reducible refine Fuel.le_iterF (fun _ => ?_))

theorem wire_Check_1zle (a0 : Call) (a1 : Event) : Le (Fuel.wire_Check_1 a0 a1) (wire_Check_1 a0 a1) := by
  simp only [Fuel.wire_Check_1, wire_Check_1]
  repeat' (first | with_reducible exact le_refl _ | with_reducible apply wire_sound_le | with_reducible apply le_must | with_reducible apply le_cond | with_reducible apply le_out | with_reducible refine le_bind ?_ (fun _ => ?_) | with_reducible refine Fuel.le_iterF (fun _ => ?_))

theorem slices_IndexFunc_Call_wire_Check_1.s1zle (a0 : List Call) (a1c0 : Event) (s : _) : Le (Fuel.slices_IndexFunc_Call_wire_Check_1.s1 a0 a1c0 s) (slices_IndexFunc_Call_wire_Check_1.s1 a0 a1c0 s) := by
  simp only [Fuel.slices_IndexFunc_Call_wire_Check_1.s1, slices_IndexFunc_Call_wire_Check_1.s1]
  repeat' (first | with_reducible exact le_refl _ | with_reducible apply wire_Check_1zle | with_reducible apply le_must | with_reducible apply le_cond | with_reducible apply le_out | with_reducible refine le_bind ?_ (fun _ => ?_) | with_reducible refine Fuel.le_iterF (fun _ => ?_))

theorem slices_IndexFunc_Call_wire_Check_1zle (a0 : List Call) (a1c0 : Event) : Le (Fuel.slices_IndexFunc_Call_wire_Check_1 a0 a1c0) (slices_IndexFunc_Call_wire_Check_1 a0 a1c0) := by
  simp only [Fuel.slices_IndexFunc_Call_wire_Check_1, slices_IndexFunc_Call_wire_Check_1]
  repeat' (first | with_reducible exact le_refl _ | with_reducible apply slices_IndexFunc_Call_wire_Check_1.s1zle | with_reducible apply le_must | with_reducible apply le_cond | with_reducible apply le_out | with_reducible refine le_bind ?_ (fun _ => ?_) | with_reducible refine Fuel.le_iterF (fun _ => ?_))

theorem slices_ContainsFunc_Call_wire_Check_1zle (a0 : List Call) (a1c0 : Event) : Le (Fuel.slices_ContainsFunc_Call_wire_Check_1 a0 a1c0) (slices_ContainsFunc_Call_wire_Check_1 a0 a1c0) := by
  simp only [Fuel.slices_ContainsFunc_Call_wire_Check_1, slices_ContainsFunc_Call_wire_Check_1]
  repeat' (first | with_reducible exact le_refl _ | with_reducible apply slices_IndexFunc_Call_wire_Check_1zle | with_reducible apply le_must | with_reducible apply le_cond | with_reducible apply le_out | with_reducible refine le_bind ?_ (fun _ => ?_) | with_reducible refine Fuel.le_iterF (fun _ => ?_))

theorem wire_Check.j2zle (a0 : List Event) (x172 : Int) (b239 : Bool) : Le (Fuel.wire_Check.j2 a0 x172 b239) (wire_Check.j2 a0 x172 b239) := by
  simp only [Fuel.wire_Check.j2, wire_Check.j2]
  repeat' (first | with_reducible exact le_refl _ | with_reducible apply slices_ContainsFunc_Call_wire_Check_1zle | with_reducible apply le_must | with_reducible apply le_cond | with_reducible apply le_out | with_reducible refine le_bind ?_ (fun _ => ?_) | with_reducible refine Fuel.le_iterF (fun _ => ?_))

theorem wire_Check.s1zle (a0 : List Event) (s : _) : Le (Fuel.wire_Check.s1 a0 s) (wire_Check.s1 a0 s) := by
  simp only [Fuel.wire_Check.s1, wire_Check.s1]
  repeat' (first | with_reducible exact le_refl _ | with_reducible apply wire_Check.j2zle | with_reducible apply le_must | with_reducible apply le_cond | with_reducible apply le_out | with_reducible refine le_bind ?_ (fun _ => ?_) | with_reducible refine Fuel.le_iterF (fun _ => ?_))

theorem wire_Check_le (a0 : List Event) : Le (Fuel.wire_Check a0) (wire_Check a0) := by
  simp only [Fuel.wire_Check, wire_Check]
  repeat' (first | with_reducible exact le_refl _ | with_reducible apply wire_Check.s1zle | with_reducible apply le_must | with_reducible apply le_cond | with_reducible apply le_out | with_reducible refine le_bind ?_ (fun _ => ?_) | with_reducible refine Fuel.le_iterF (fun _ => ?_))

theorem index_calls.j2zle (a0 : History) (a1 : Txn) (l421 : List Call) (x424 : Int) : Le (Fuel.index_calls.j2 a0 a1 l421 x424) (index_calls.j2 a0 a1 l421 x424) := by
  simp only [Fuel.index_calls.j2, index_calls.j2]
  repeat' (first | with_reducible exact le_refl _ | with_reducible apply le_must | with_reducible apply le_cond | with_reducible apply le_out | with_reducible refine le_bind ?_ (fun _ => ?_) | with_reducible refine Fuel.le_iterF (fun _ => ?_))

theorem index_calls.j3zle (a0 : History) (a1 : Txn) (l421 : List Call) (x424 : Int) (b538 : Bool) : Le (Fuel.index_calls.j3 a0 a1 l421 x424 b538) (index_calls.j3 a0 a1 l421 x424 b538) := by
  simp only [Fuel.index_calls.j3, index_calls.j3]
  repeat' (first | with_reducible exact le_refl _ | with_reducible apply index_calls.j2zle | with_reducible apply le_must | with_reducible apply le_cond | with_reducible apply le_out | with_reducible refine le_bind ?_ (fun _ => ?_) | with_reducible refine Fuel.le_iterF (fun _ => ?_))

theorem index_calls.s1zle (a0 : History) (a1 : Txn) (s : _) : Le (Fuel.index_calls.s1 a0 a1 s) (index_calls.s1 a0 a1 s) := by
  obtain ⟨l421, x424⟩ := s
  simp only [Fuel.index_calls.s1, index_calls.s1]
  repeat' (first | with_reducible exact le_refl _ | with_reducible apply wire_Check_le | with_reducible apply index_calls.j3zle | with_reducible apply le_must | with_reducible apply le_cond | with_reducible apply le_out | with_reducible refine le_bind ?_ (fun _ => ?_) | with_reducible refine Fuel.le_iterF (fun _ => ?_))

theorem index_calls_le (a0 : History) (a1 : Txn) : Le (Fuel.index_calls a0 a1) (index_calls a0 a1) := by
  simp only [Fuel.index_calls, index_calls]
  repeat' (first | with_reducible exact le_refl _ | with_reducible apply index_calls.s1zle | with_reducible apply le_must | with_reducible apply le_cond | with_reducible apply le_out | with_reducible refine le_bind ?_ (fun _ => ?_) | with_reducible refine Fuel.le_iterF (fun _ => ?_))

theorem index_placed_1zle (a0 : Txn) (a1 : Txn) : Le (Fuel.index_placed_1 a0 a1) (index_placed_1 a0 a1) := by
  simp only [Fuel.index_placed_1, index_placed_1]
  repeat' (first | with_reducible exact le_refl _ | with_reducible apply le_must | with_reducible apply le_cond | with_reducible apply le_out | with_reducible refine le_bind ?_ (fun _ => ?_) | with_reducible refine Fuel.le_iterF (fun _ => ?_))

theorem slices_IndexFunc_Txn_index_placed_1.s1zle (a0 : List Txn) (a1c0 : Txn) (s : _) : Le (Fuel.slices_IndexFunc_Txn_index_placed_1.s1 a0 a1c0 s) (slices_IndexFunc_Txn_index_placed_1.s1 a0 a1c0 s) := by
  simp only [Fuel.slices_IndexFunc_Txn_index_placed_1.s1, slices_IndexFunc_Txn_index_placed_1.s1]
  repeat' (first | with_reducible exact le_refl _ | with_reducible apply index_placed_1zle | with_reducible apply le_must | with_reducible apply le_cond | with_reducible apply le_out | with_reducible refine le_bind ?_ (fun _ => ?_) | with_reducible refine Fuel.le_iterF (fun _ => ?_))

theorem slices_IndexFunc_Txn_index_placed_1zle (a0 : List Txn) (a1c0 : Txn) : Le (Fuel.slices_IndexFunc_Txn_index_placed_1 a0 a1c0) (slices_IndexFunc_Txn_index_placed_1 a0 a1c0) := by
  simp only [Fuel.slices_IndexFunc_Txn_index_placed_1, slices_IndexFunc_Txn_index_placed_1]
  repeat' (first | with_reducible exact le_refl _ | with_reducible apply slices_IndexFunc_Txn_index_placed_1.s1zle | with_reducible apply le_must | with_reducible apply le_cond | with_reducible apply le_out | with_reducible refine le_bind ?_ (fun _ => ?_) | with_reducible refine Fuel.le_iterF (fun _ => ?_))

theorem slices_ContainsFunc_Txn_index_placed_1zle (a0 : List Txn) (a1c0 : Txn) : Le (Fuel.slices_ContainsFunc_Txn_index_placed_1 a0 a1c0) (slices_ContainsFunc_Txn_index_placed_1 a0 a1c0) := by
  simp only [Fuel.slices_ContainsFunc_Txn_index_placed_1, slices_ContainsFunc_Txn_index_placed_1]
  repeat' (first | with_reducible exact le_refl _ | with_reducible apply slices_IndexFunc_Txn_index_placed_1zle | with_reducible apply le_must | with_reducible apply le_cond | with_reducible apply le_out | with_reducible refine le_bind ?_ (fun _ => ?_) | with_reducible refine Fuel.le_iterF (fun _ => ?_))

theorem index_placed.j2zle (a0 : List Txn) (a1 : Txn) (b46 : Bool) : Le (Fuel.index_placed.j2 a0 a1 b46) (index_placed.j2 a0 a1 b46) := by
  simp only [Fuel.index_placed.j2, index_placed.j2]
  repeat' (first | with_reducible exact le_refl _ | with_reducible apply slices_ContainsFunc_Txn_index_placed_1zle | with_reducible apply le_must | with_reducible apply le_cond | with_reducible apply le_out | with_reducible refine le_bind ?_ (fun _ => ?_) | with_reducible refine Fuel.le_iterF (fun _ => ?_))

theorem index_placed.j1zle (a0 : List Txn) (a1 : Txn) : Le (Fuel.index_placed.j1 a0 a1) (index_placed.j1 a0 a1) := by
  simp only [Fuel.index_placed.j1, index_placed.j1]
  repeat' (first | with_reducible exact le_refl _ | with_reducible apply index_placed.j2zle | with_reducible apply le_must | with_reducible apply le_cond | with_reducible apply le_out | with_reducible refine le_bind ?_ (fun _ => ?_) | with_reducible refine Fuel.le_iterF (fun _ => ?_))

theorem index_placed.j4zle (a0 : List Txn) (a1 : Txn) (b72 : Bool) : Le (Fuel.index_placed.j4 a0 a1 b72) (index_placed.j4 a0 a1 b72) := by
  simp only [Fuel.index_placed.j4, index_placed.j4]
  repeat' (first | with_reducible exact le_refl _ | with_reducible apply index_placed.j1zle | with_reducible apply le_must | with_reducible apply le_cond | with_reducible apply le_out | with_reducible refine le_bind ?_ (fun _ => ?_) | with_reducible refine Fuel.le_iterF (fun _ => ?_))

theorem index_placed.j3zle (a0 : List Txn) (a1 : Txn) (b66 : Bool) : Le (Fuel.index_placed.j3 a0 a1 b66) (index_placed.j3 a0 a1 b66) := by
  simp only [Fuel.index_placed.j3, index_placed.j3]
  repeat' (first | with_reducible exact le_refl _ | with_reducible apply index_placed.j1zle | with_reducible apply index_placed.j4zle | with_reducible apply le_must | with_reducible apply le_cond | with_reducible apply le_out | with_reducible refine le_bind ?_ (fun _ => ?_) | with_reducible refine Fuel.le_iterF (fun _ => ?_))

theorem index_placed_le (a0 : List Txn) (a1 : Txn) : Le (Fuel.index_placed a0 a1) (index_placed a0 a1) := by
  simp only [Fuel.index_placed, index_placed]
  repeat' (first | with_reducible exact le_refl _ | with_reducible apply index_placed.j3zle | with_reducible apply le_must | with_reducible apply le_cond | with_reducible apply le_out | with_reducible refine le_bind ?_ (fun _ => ?_) | with_reducible refine Fuel.le_iterF (fun _ => ?_))

theorem index_typeOf_le (a0 : Int) : Le (Fuel.index_typeOf a0) (index_typeOf a0) := by
  simp only [Fuel.index_typeOf, index_typeOf]
  repeat' (first | with_reducible exact le_refl _ | with_reducible apply le_must | with_reducible apply le_cond | with_reducible apply le_out | with_reducible refine le_bind ?_ (fun _ => ?_) | with_reducible refine Fuel.le_iterF (fun _ => ?_))

theorem index_ledger_enter.j2zle (l59 : List ByteArray) (m62 : List (ByteArray × Int)) (l63 : List Int) (m152 : List (IndexFact × Unit)) (m153 : List (ByteArray × (List Int))) : Le (Fuel.index_ledger_enter.j2 l59 m62 l63 m152 m153) (index_ledger_enter.j2 l59 m62 l63 m152 m153) := by
  simp only [Fuel.index_ledger_enter.j2, index_ledger_enter.j2]
  repeat' (first | with_reducible exact le_refl _ | with_reducible apply le_must | with_reducible apply le_cond | with_reducible apply le_out | with_reducible refine le_bind ?_ (fun _ => ?_) | with_reducible refine Fuel.le_iterF (fun _ => ?_))

theorem index_ledger_enter.j4zle (a0 : IndexLedger) (a1 : Call) (l59 : List ByteArray) (m62 : List (ByteArray × Int)) (l63 : List Int) : Le (Fuel.index_ledger_enter.j4 a0 a1 l59 m62 l63) (index_ledger_enter.j4 a0 a1 l59 m62 l63) := by
  simp only [Fuel.index_ledger_enter.j4, index_ledger_enter.j4]
  repeat' (first | with_reducible exact le_refl _ | with_reducible apply index_ledger_enter.j2zle | with_reducible apply le_must | with_reducible apply le_cond | with_reducible apply le_out | with_reducible refine le_bind ?_ (fun _ => ?_) | with_reducible refine Fuel.le_iterF (fun _ => ?_))

theorem index_ledger_enter.j5zle (a0 : IndexLedger) (a1 : Call) (l59 : List ByteArray) (m62 : List (ByteArray × Int)) (l63 : List Int) (m196 : List (ByteArray × (List Int))) : Le (Fuel.index_ledger_enter.j5 a0 a1 l59 m62 l63 m196) (index_ledger_enter.j5 a0 a1 l59 m62 l63 m196) := by
  simp only [Fuel.index_ledger_enter.j5, index_ledger_enter.j5]
  repeat' (first | with_reducible exact le_refl _ | with_reducible apply index_ledger_enter.j2zle | with_reducible apply le_must | with_reducible apply le_cond | with_reducible apply le_out | with_reducible refine le_bind ?_ (fun _ => ?_) | with_reducible refine Fuel.le_iterF (fun _ => ?_))

theorem index_ledger_enter.j6zle (a0 : IndexLedger) (a1 : Call) (a2 : Int) (l59 : List ByteArray) (m62 : List (ByteArray × Int)) (l63 : List Int) (b223 : Bool) : Le (Fuel.index_ledger_enter.j6 a0 a1 a2 l59 m62 l63 b223) (index_ledger_enter.j6 a0 a1 a2 l59 m62 l63 b223) := by
  simp only [Fuel.index_ledger_enter.j6, index_ledger_enter.j6]
  repeat' (first | with_reducible exact le_refl _ | with_reducible apply index_ledger_enter.j5zle | with_reducible apply le_must | with_reducible apply le_cond | with_reducible apply le_out | with_reducible refine le_bind ?_ (fun _ => ?_) | with_reducible refine Fuel.le_iterF (fun _ => ?_))

theorem index_ledger_enter.j3zle (a0 : IndexLedger) (a1 : Call) (a2 : Int) (l59 : List ByteArray) (m62 : List (ByteArray × Int)) (l63 : List Int) (b156 : Bool) : Le (Fuel.index_ledger_enter.j3 a0 a1 a2 l59 m62 l63 b156) (index_ledger_enter.j3 a0 a1 a2 l59 m62 l63 b156) := by
  simp only [Fuel.index_ledger_enter.j3, index_ledger_enter.j3]
  repeat' (first | with_reducible exact le_refl _ | with_reducible apply index_ledger_enter.j2zle | with_reducible apply index_ledger_enter.j4zle | with_reducible apply index_ledger_enter.j6zle | with_reducible apply le_must | with_reducible apply le_cond | with_reducible apply le_out | with_reducible refine le_bind ?_ (fun _ => ?_) | with_reducible refine Fuel.le_iterF (fun _ => ?_))

theorem index_ledger_enter.j1zle (a0 : IndexLedger) (a1 : Call) (a2 : Int) (l59 : List ByteArray) (m62 : List (ByteArray × Int)) (l63 : List Int) (x66 : Int) : Le (Fuel.index_ledger_enter.j1 a0 a1 a2 l59 m62 l63 x66) (index_ledger_enter.j1 a0 a1 a2 l59 m62 l63 x66) := by
  simp only [Fuel.index_ledger_enter.j1, index_ledger_enter.j1]
  repeat' (first | with_reducible exact le_refl _ | with_reducible apply index_typeOf_le | with_reducible apply index_ledger_enter.j3zle | with_reducible apply le_must | with_reducible apply le_cond | with_reducible apply le_out | with_reducible refine le_bind ?_ (fun _ => ?_) | with_reducible refine Fuel.le_iterF (fun _ => ?_))

theorem index_ledger_enter.j7zle (a0 : IndexLedger) (a1 : Call) (a2 : Int) : Le (Fuel.index_ledger_enter.j7 a0 a1 a2) (index_ledger_enter.j7 a0 a1 a2) := by
  simp only [Fuel.index_ledger_enter.j7, index_ledger_enter.j7]
  repeat' (first | with_reducible exact le_refl _ | with_reducible apply index_typeOf_le | with_reducible apply index_ledger_enter.j1zle | with_reducible apply le_must | with_reducible apply le_cond | with_reducible apply le_out | with_reducible refine le_bind ?_ (fun _ => ?_) | with_reducible refine Fuel.le_iterF (fun _ => ?_))

theorem index_ledger_enter_le (a0 : IndexLedger) (a1 : Call) (a2 : Int) : Le (Fuel.index_ledger_enter a0 a1 a2) (index_ledger_enter a0 a1 a2) := by
  simp only [Fuel.index_ledger_enter, index_ledger_enter]
  repeat' (first | with_reducible exact le_refl _ | with_reducible apply index_ledger_enter.j1zle | with_reducible apply index_ledger_enter.j7zle | with_reducible apply le_must | with_reducible apply le_cond | with_reducible apply le_out | with_reducible refine le_bind ?_ (fun _ => ?_) | with_reducible refine Fuel.le_iterF (fun _ => ?_))

theorem index_Check.j3zle (x147 : Int) (b193 : Bool) : Le (Fuel.index_Check.j3 x147 b193) (index_Check.j3 x147 b193) := by
  simp only [Fuel.index_Check.j3, index_Check.j3]
  repeat' (first | with_reducible exact le_refl _ | with_reducible apply le_must | with_reducible apply le_cond | with_reducible apply le_out | with_reducible refine le_bind ?_ (fun _ => ?_) | with_reducible refine Fuel.le_iterF (fun _ => ?_))

theorem index_Check.s6zle (x1922 : Int) (y2316 : Event × Bool) (s : _) : Le (Fuel.index_Check.s6 x1922 y2316 s) (index_Check.s6 x1922 y2316 s) := by
  obtain ⟨l2615, m2618, l2620, m2623, m2625, x2627⟩ := s
  simp only [Fuel.index_Check.s6, index_Check.s6]
  repeat' (first | with_reducible exact le_refl _ | with_reducible apply index_ledger_enter_le | with_reducible apply le_must | with_reducible apply le_cond | with_reducible apply le_out | with_reducible refine le_bind ?_ (fun _ => ?_) | with_reducible refine Fuel.le_iterF (fun _ => ?_))

theorem index_Check.j5zle (l1910 : List ByteArray) (m1913 : List (ByteArray × Int)) (l1915 : List Int) (m1918 : List (IndexFact × Unit)) (m1920 : List (ByteArray × (List Int))) (x1922 : Int) (y2316 : Event × Bool) (b2339 : Bool) : Le (Fuel.index_Check.j5 l1910 m1913 l1915 m1918 m1920 x1922 y2316 b2339) (index_Check.j5 l1910 m1913 l1915 m1918 m1920 x1922 y2316 b2339) := by
  simp only [Fuel.index_Check.j5, index_Check.j5]
  repeat' (first | with_reducible exact le_refl _ | with_reducible apply index_Check.s6zle | with_reducible apply le_must | with_reducible apply le_cond | with_reducible apply le_out | with_reducible refine le_bind ?_ (fun _ => ?_) | with_reducible refine Fuel.le_iterF (fun _ => ?_))

theorem index_Check.s4zle (a0 : History) (s : _) : Le (Fuel.index_Check.s4 a0 s) (index_Check.s4 a0 s) := by
  obtain ⟨l1910, m1913, l1915, m1918, m1920, x1922⟩ := s
  simp only [Fuel.index_Check.s4, index_Check.s4]
  repeat' (first | with_reducible exact le_refl _ | with_reducible apply index_calls_le | with_reducible apply index_placed_le | with_reducible apply index_Check.j5zle | with_reducible apply le_must | with_reducible apply le_cond | with_reducible apply le_out | with_reducible refine le_bind ?_ (fun _ => ?_) | with_reducible refine Fuel.le_iterF (fun _ => ?_))

theorem index_Check.s2zle (a0 : History) (s : _) : Le (Fuel.index_Check.s2 a0 s) (index_Check.s2 a0 s) := by
  simp only [Fuel.index_Check.s2, index_Check.s2]
  repeat' (first | with_reducible exact le_refl _ | with_reducible apply slices_Contains_string_le | with_reducible apply index_newLedger_le | with_reducible apply index_Check.j3zle | with_reducible apply index_Check.s4zle | with_reducible apply le_must | with_reducible apply le_cond | with_reducible apply le_out | with_reducible refine le_bind ?_ (fun _ => ?_) | with_reducible refine Fuel.le_iterF (fun _ => ?_))

theorem index_Check.j1zle (a0 : History) (b7 : Bool) : Le (Fuel.index_Check.j1 a0 b7) (index_Check.j1 a0 b7) := by
  simp only [Fuel.index_Check.j1, index_Check.j1]
  repeat' (first | with_reducible exact le_refl _ | with_reducible apply index_Check.s2zle | with_reducible apply le_must | with_reducible apply le_cond | with_reducible apply le_out | with_reducible refine le_bind ?_ (fun _ => ?_) | with_reducible refine Fuel.le_iterF (fun _ => ?_))

theorem index_Check_le (a0 : History) : Le (Fuel.index_Check a0) (index_Check a0) := by
  simp only [Fuel.index_Check, index_Check]
  repeat' (first | with_reducible exact le_refl _ | with_reducible apply index_Check.j1zle | with_reducible apply le_must | with_reducible apply le_cond | with_reducible apply le_out | with_reducible refine le_bind ?_ (fun _ => ?_) | with_reducible refine Fuel.le_iterF (fun _ => ?_))

theorem state_of_le (a0 : Int) : Le (Fuel.state_of a0) (state_of a0) := by
  simp only [Fuel.state_of, state_of]
  repeat' (first | with_reducible exact le_refl _ | with_reducible apply le_must | with_reducible apply le_cond | with_reducible apply le_out | with_reducible refine le_bind ?_ (fun _ => ?_) | with_reducible refine Fuel.le_iterF (fun _ => ?_))

theorem state_register_sound_le (a0 : Unit) (a1 : List Int) : Le (Fuel.state_register_sound a0 a1) (state_register_sound a0 a1) := by
  simp only [Fuel.state_register_sound, state_register_sound]
  repeat' (first | with_reducible exact le_refl _ | with_reducible apply le_must | with_reducible apply le_cond | with_reducible apply le_out | with_reducible refine le_bind ?_ (fun _ => ?_) | with_reducible refine Fuel.le_iterF (fun _ => ?_))

theorem state_list_sound_le (a0 : Unit) (a1 : List Int) : Le (Fuel.state_list_sound a0 a1) (state_list_sound a0 a1) := by
  simp only [Fuel.state_list_sound, state_list_sound]
  repeat' (first | with_reducible exact le_refl _ | with_reducible apply le_must | with_reducible apply le_cond | with_reducible apply le_out | with_reducible refine le_bind ?_ (fun _ => ?_) | with_reducible refine Fuel.le_iterF (fun _ => ?_))

theorem state_set_sound.s1zle (a1 : List Int) (s : _) : Le (Fuel.state_set_sound.s1 a1 s) (state_set_sound.s1 a1 s) := by
  simp only [Fuel.state_set_sound.s1, state_set_sound.s1]
  repeat' (first | with_reducible exact le_refl _ | with_reducible apply le_must | with_reducible apply le_cond | with_reducible apply le_out | with_reducible refine le_bind ?_ (fun _ => ?_) | with_reducible refine Fuel.le_iterF (fun _ => ?_))

theorem state_set_sound_le (a0 : Unit) (a1 : List Int) : Le (Fuel.state_set_sound a0 a1) (state_set_sound a0 a1) := by
  simp only [Fuel.state_set_sound, state_set_sound]
  repeat' (first | with_reducible exact le_refl _ | with_reducible apply state_set_sound.s1zle | with_reducible apply le_must | with_reducible apply le_cond | with_reducible apply le_out | with_reducible refine le_bind ?_ (fun _ => ?_) | with_reducible refine Fuel.le_iterF (fun _ => ?_))

theorem state_counter_sound_le (a0 : Unit) (a1 : List Int) : Le (Fuel.state_counter_sound a0 a1) (state_counter_sound a0 a1) := by
  simp only [Fuel.state_counter_sound, state_counter_sound]
  repeat' (first | with_reducible exact le_refl _ | with_reducible apply le_must | with_reducible apply le_cond | with_reducible apply le_out | with_reducible refine le_bind ?_ (fun _ => ?_) | with_reducible refine Fuel.le_iterF (fun _ => ?_))

theorem state_Check_le (a0 : Int) (a1 : List Int) : Le (Fuel.state_Check a0 a1) (state_Check a0 a1) := by
  simp only [Fuel.state_Check, state_Check]
  repeat' (first | with_reducible exact le_refl _ | with_reducible apply state_of_le | with_reducible apply state_register_sound_le | with_reducible apply state_list_sound_le | with_reducible apply state_set_sound_le | with_reducible apply state_counter_sound_le | with_reducible apply le_must | with_reducible apply le_cond | with_reducible apply le_out | with_reducible refine le_bind ?_ (fun _ => ?_) | with_reducible refine Fuel.le_iterF (fun _ => ?_))

theorem state_register_without_le (a0 : Unit) (a1 : List Int) (a2 : List Int) : Le (Fuel.state_register_without a0 a1 a2) (state_register_without a0 a1 a2) := by
  simp only [Fuel.state_register_without, state_register_without]
  repeat' (first | with_reducible exact le_refl _ | with_reducible apply le_must | with_reducible apply le_cond | with_reducible apply le_out | with_reducible refine le_bind ?_ (fun _ => ?_) | with_reducible refine Fuel.le_iterF (fun _ => ?_))

theorem slices_Clone_int64zle (a0 : List Int) : Le (Fuel.slices_Clone_int64 a0) (slices_Clone_int64 a0) := by
  simp only [Fuel.slices_Clone_int64, slices_Clone_int64]
  repeat' (first | with_reducible exact le_refl _ | with_reducible apply le_must | with_reducible apply le_cond | with_reducible apply le_out | with_reducible refine le_bind ?_ (fun _ => ?_) | with_reducible refine Fuel.le_iterF (fun _ => ?_))

theorem slices_Equal_int64.s1zle (a0 : List Int) (a1 : List Int) (s : _) : Le (Fuel.slices_Equal_int64.s1 a0 a1 s) (slices_Equal_int64.s1 a0 a1 s) := by
  simp only [Fuel.slices_Equal_int64.s1, slices_Equal_int64.s1]
  repeat' (first | with_reducible exact le_refl _ | with_reducible apply le_must | with_reducible apply le_cond | with_reducible apply le_out | with_reducible refine le_bind ?_ (fun _ => ?_) | with_reducible refine Fuel.le_iterF (fun _ => ?_))

theorem slices_Equal_int64zle (a0 : List Int) (a1 : List Int) : Le (Fuel.slices_Equal_int64 a0 a1) (slices_Equal_int64 a0 a1) := by
  simp only [Fuel.slices_Equal_int64, slices_Equal_int64]
  repeat' (first | with_reducible exact le_refl _ | with_reducible apply slices_Equal_int64.s1zle | with_reducible apply le_must | with_reducible apply le_cond | with_reducible apply le_out | with_reducible refine le_bind ?_ (fun _ => ?_) | with_reducible refine Fuel.le_iterF (fun _ => ?_))

theorem state_list_without.j1zle (a1 : List Int) (a2 : List Int) (b21 : Bool) : Le (Fuel.state_list_without.j1 a1 a2 b21) (state_list_without.j1 a1 a2 b21) := by
  simp only [Fuel.state_list_without.j1, state_list_without.j1]
  repeat' (first | with_reducible exact le_refl _ | with_reducible apply slices_Clone_int64zle | with_reducible apply le_must | with_reducible apply le_cond | with_reducible apply le_out | with_reducible refine le_bind ?_ (fun _ => ?_) | with_reducible refine Fuel.le_iterF (fun _ => ?_))

theorem state_list_without_le (a0 : Unit) (a1 : List Int) (a2 : List Int) : Le (Fuel.state_list_without a0 a1 a2) (state_list_without a0 a1 a2) := by
  simp only [Fuel.state_list_without, state_list_without]
  repeat' (first | with_reducible exact le_refl _ | with_reducible apply slices_Equal_int64zle | with_reducible apply state_list_without.j1zle | with_reducible apply le_must | with_reducible apply le_cond | with_reducible apply le_out | with_reducible refine le_bind ?_ (fun _ => ?_) | with_reducible refine Fuel.le_iterF (fun _ => ?_))

theorem cmp_isNaN_int64zle (a0 : Int) : Le (Fuel.cmp_isNaN_int64 a0) (cmp_isNaN_int64 a0) := by
  simp only [Fuel.cmp_isNaN_int64, cmp_isNaN_int64]
  repeat' (first | with_reducible exact le_refl _ | with_reducible apply le_must | with_reducible apply le_cond | with_reducible apply le_out | with_reducible refine le_bind ?_ (fun _ => ?_) | with_reducible refine Fuel.le_iterF (fun _ => ?_))

theorem cmp_Less_int64zle (a0 : Int) (a1 : Int) : Le (Fuel.cmp_Less_int64 a0 a1) (cmp_Less_int64 a0 a1) := by
  simp only [Fuel.cmp_Less_int64, cmp_Less_int64]
  repeat' (first | with_reducible exact le_refl _ | with_reducible apply cmp_isNaN_int64zle | with_reducible apply le_must | with_reducible apply le_cond | with_reducible apply le_out | with_reducible refine le_bind ?_ (fun _ => ?_) | with_reducible refine Fuel.le_iterF (fun _ => ?_))

theorem slices_isNaN_int64zle (a0 : Int) : Le (Fuel.slices_isNaN_int64 a0) (slices_isNaN_int64 a0) := by
  simp only [Fuel.slices_isNaN_int64, slices_isNaN_int64]
  repeat' (first | with_reducible exact le_refl _ | with_reducible apply le_must | with_reducible apply le_cond | with_reducible apply le_out | with_reducible refine le_bind ?_ (fun _ => ?_) | with_reducible refine Fuel.le_iterF (fun _ => ?_))

theorem slices_BinarySearch_int64.j2zle (x126 : Int) (x127 : Int) : Le (Fuel.slices_BinarySearch_int64.j2 x126 x127) (slices_BinarySearch_int64.j2 x126 x127) := by
  simp only [Fuel.slices_BinarySearch_int64.j2, slices_BinarySearch_int64.j2]
  repeat' (first | with_reducible exact le_refl _ | with_reducible apply le_must | with_reducible apply le_cond | with_reducible apply le_out | with_reducible refine le_bind ?_ (fun _ => ?_) | with_reducible refine Fuel.le_iterF (fun _ => ?_))

theorem slices_BinarySearch_int64.s1zle (a0 : List Int) (a1 : Int) (s : _) : Le (Fuel.slices_BinarySearch_int64.s1 a0 a1 s) (slices_BinarySearch_int64.s1 a0 a1 s) := by
  obtain ⟨x115, x116⟩ := s
  simp only [Fuel.slices_BinarySearch_int64.s1, slices_BinarySearch_int64.s1]
  repeat' (first | with_reducible exact le_refl _ | with_reducible apply cmp_Less_int64zle | with_reducible apply slices_isNaN_int64zle | with_reducible apply slices_BinarySearch_int64.j2zle | with_reducible apply le_must | with_reducible apply le_cond | with_reducible apply le_out | with_reducible refine le_bind ?_ (fun _ => ?_) | with_reducible refine Fuel.le_iterF (fun _ => ?_))

theorem slices_BinarySearch_int64zle (a0 : List Int) (a1 : Int) : Le (Fuel.slices_BinarySearch_int64 a0 a1) (slices_BinarySearch_int64 a0 a1) := by
  simp only [Fuel.slices_BinarySearch_int64, slices_BinarySearch_int64]
  repeat' (first | with_reducible exact le_refl _ | with_reducible apply slices_BinarySearch_int64.s1zle | with_reducible apply le_must | with_reducible apply le_cond | with_reducible apply le_out | with_reducible refine le_bind ?_ (fun _ => ?_) | with_reducible refine Fuel.le_iterF (fun _ => ?_))

theorem slices_Delete_int64zle (a0 : List Int) (a1 a2 : Int) : Le (Fuel.slices_Delete_int64 a0 a1 a2) (slices_Delete_int64 a0 a1 a2) := by
  simp only [Fuel.slices_Delete_int64, slices_Delete_int64]
  repeat' (first | with_reducible exact le_refl _ | with_reducible apply le_must | with_reducible apply le_cond | with_reducible apply le_out | with_reducible refine le_bind ?_ (fun _ => ?_) | with_reducible refine Fuel.le_iterF (fun _ => ?_))

theorem state_set_without.s1zle (a2 : List Int) (s : _) : Le (Fuel.state_set_without.s1 a2 s) (state_set_without.s1 a2 s) := by
  obtain ⟨l207, x210⟩ := s
  simp only [Fuel.state_set_without.s1, state_set_without.s1]
  repeat' (first | with_reducible exact le_refl _ | with_reducible apply slices_BinarySearch_int64zle | with_reducible apply slices_Delete_int64zle | with_reducible apply le_must | with_reducible apply le_cond | with_reducible apply le_out | with_reducible refine le_bind ?_ (fun _ => ?_) | with_reducible refine Fuel.le_iterF (fun _ => ?_))

theorem state_set_without_le (a0 : Unit) (a1 : List Int) (a2 : List Int) : Le (Fuel.state_set_without a0 a1 a2) (state_set_without a0 a1 a2) := by
  simp only [Fuel.state_set_without, state_set_without]
  repeat' (first | with_reducible exact le_refl _ | with_reducible apply slices_Clone_int64zle | with_reducible apply state_set_without.s1zle | with_reducible apply le_must | with_reducible apply le_cond | with_reducible apply le_out | with_reducible refine le_bind ?_ (fun _ => ?_) | with_reducible refine Fuel.le_iterF (fun _ => ?_))

theorem state_counter_without.s1zle (a2 : List Int) (s : _) : Le (Fuel.state_counter_without.s1 a2 s) (state_counter_without.s1 a2 s) := by
  obtain ⟨x75, x76⟩ := s
  simp only [Fuel.state_counter_without.s1, state_counter_without.s1]
  repeat' (first | with_reducible exact le_refl _ | with_reducible apply le_must | with_reducible apply le_cond | with_reducible apply le_out | with_reducible refine le_bind ?_ (fun _ => ?_) | with_reducible refine Fuel.le_iterF (fun _ => ?_))

theorem state_counter_without_le (a0 : Unit) (a1 : List Int) (a2 : List Int) : Le (Fuel.state_counter_without a0 a1 a2) (state_counter_without a0 a1 a2) := by
  simp only [Fuel.state_counter_without, state_counter_without]
  repeat' (first | with_reducible exact le_refl _ | with_reducible apply state_counter_without.s1zle | with_reducible apply le_must | with_reducible apply le_cond | with_reducible apply le_out | with_reducible refine le_bind ?_ (fun _ => ?_) | with_reducible refine Fuel.le_iterF (fun _ => ?_))

theorem state_Before.j1zle (a0 : Int) (a1 : List Int) (a2 : List Int) (b9 : Bool) : Le (Fuel.state_Before.j1 a0 a1 a2 b9) (state_Before.j1 a0 a1 a2 b9) := by
  simp only [Fuel.state_Before.j1, state_Before.j1]
  repeat' (first | with_reducible exact le_refl _ | with_reducible apply state_of_le | with_reducible apply state_register_without_le | with_reducible apply state_list_without_le | with_reducible apply state_set_without_le | with_reducible apply state_counter_without_le | with_reducible apply le_must | with_reducible apply le_cond | with_reducible apply le_out | with_reducible refine le_bind ?_ (fun _ => ?_) | with_reducible refine Fuel.le_iterF (fun _ => ?_))

theorem state_Before_le (a0 : Int) (a1 : List Int) (a2 : List Int) : Le (Fuel.state_Before a0 a1 a2) (state_Before a0 a1 a2) := by
  simp only [Fuel.state_Before, state_Before]
  repeat' (first | with_reducible exact le_refl _ | with_reducible apply state_Check_le | with_reducible apply state_Before.j1zle | with_reducible apply le_must | with_reducible apply le_cond | with_reducible apply le_out | with_reducible refine le_bind ?_ (fun _ => ?_) | with_reducible refine Fuel.le_iterF (fun _ => ?_))

theorem local_found_look.j2zle (x716 : Int) (l938 : List Ask) (l941 : List Spot) (m944 : List (Int × (List Int))) : Le (Fuel.local_found_look.j2 x716 l938 l941 m944) (local_found_look.j2 x716 l938 l941 m944) := by
  simp only [Fuel.local_found_look.j2, local_found_look.j2]
  repeat' (first | with_reducible exact le_refl _ | with_reducible apply le_must | with_reducible apply le_cond | with_reducible apply le_out | with_reducible refine le_bind ?_ (fun _ => ?_) | with_reducible refine Fuel.le_iterF (fun _ => ?_))

theorem local_found_look.j3zle (a1 : History) (a2 : Int) (l709 : List Ask) (l712 : List Spot) (m715 : List (Int × (List Int))) (x716 : Int) (l1129 : List Int) (b1132 : Bool) : Le (Fuel.local_found_look.j3 a1 a2 l709 l712 m715 x716 l1129 b1132) (local_found_look.j3 a1 a2 l709 l712 m715 x716 l1129 b1132) := by
  simp only [Fuel.local_found_look.j3, local_found_look.j3]
  repeat' (first | with_reducible exact le_refl _ | with_reducible apply local_found_look.j2zle | with_reducible apply le_must | with_reducible apply le_cond | with_reducible apply le_out | with_reducible refine le_bind ?_ (fun _ => ?_) | with_reducible refine Fuel.le_iterF (fun _ => ?_))

theorem local_found_look.j4zle (a1 : History) (a2 : Int) (l709 : List Ask) (l712 : List Spot) (m715 : List (Int × (List Int))) (x716 : Int) (y1187 : List Int × Bool) (b1192 : Bool) : Le (Fuel.local_found_look.j4 a1 a2 l709 l712 m715 x716 y1187 b1192) (local_found_look.j4 a1 a2 l709 l712 m715 x716 y1187 b1192) := by
  simp only [Fuel.local_found_look.j4, local_found_look.j4]
  repeat' (first | with_reducible exact le_refl _ | with_reducible apply local_found_look.j2zle | with_reducible apply local_found_look.j3zle | with_reducible apply le_must | with_reducible apply le_cond | with_reducible apply le_out | with_reducible refine le_bind ?_ (fun _ => ?_) | with_reducible refine Fuel.le_iterF (fun _ => ?_))

theorem local_found_look.s1zle (a1 : History) (a2 : Int) (s : _) : Le (Fuel.local_found_look.s1 a1 a2 s) (local_found_look.s1 a1 a2 s) := by
  obtain ⟨l709, l712, m715, x716⟩ := s
  simp only [Fuel.local_found_look.s1, local_found_look.s1]
  repeat' (first | with_reducible exact le_refl _ | with_reducible apply slices_Clone_int64zle | with_reducible apply state_Before_le | with_reducible apply local_found_look.j2zle | with_reducible apply local_found_look.j3zle | with_reducible apply local_found_look.j4zle | with_reducible apply le_must | with_reducible apply le_cond | with_reducible apply le_out | with_reducible refine le_bind ?_ (fun _ => ?_) | with_reducible refine Fuel.le_iterF (fun _ => ?_))

theorem local_found_look_le (a0 : LocalFound) (a1 : History) (a2 : Int) : Le (Fuel.local_found_look a0 a1 a2) (local_found_look a0 a1 a2) := by
  simp only [Fuel.local_found_look, local_found_look]
  repeat' (first | with_reducible exact le_refl _ | with_reducible apply local_found_look.s1zle | with_reducible apply le_must | with_reducible apply le_cond | with_reducible apply le_out | with_reducible refine le_bind ?_ (fun _ => ?_) | with_reducible refine Fuel.le_iterF (fun _ => ?_))

theorem local_Look.j1zle (a0 : History) (a1 : Int) (b15 : Bool) : Le (Fuel.local_Look.j1 a0 a1 b15) (local_Look.j1 a0 a1 b15) := by
  simp only [Fuel.local_Look.j1, local_Look.j1]
  repeat' (first | with_reducible exact le_refl _ | with_reducible apply local_found_look_le | with_reducible apply le_must | with_reducible apply le_cond | with_reducible apply le_out | with_reducible refine le_bind ?_ (fun _ => ?_) | with_reducible refine Fuel.le_iterF (fun _ => ?_))

theorem local_Look_le (a0 : History) (a1 : Int) : Le (Fuel.local_Look a0 a1) (local_Look a0 a1) := by
  simp only [Fuel.local_Look, local_Look]
  repeat' (first | with_reducible exact le_refl _ | with_reducible apply index_Check_le | with_reducible apply local_Look.j1zle | with_reducible apply le_must | with_reducible apply le_cond | with_reducible apply le_out | with_reducible refine le_bind ?_ (fun _ => ?_) | with_reducible refine Fuel.le_iterF (fun _ => ?_))

theorem assizelaw09zalive_le  : Le (Fuel.assizelaw09zalive) (assizelaw09zalive) := by
  simp only [Fuel.assizelaw09zalive, assizelaw09zalive]
  repeat' (first | with_reducible exact le_refl _ | with_reducible apply local_Look_le | with_reducible apply le_must | with_reducible apply le_cond | with_reducible apply le_out | with_reducible refine le_bind ?_ (fun _ => ?_) | with_reducible refine Fuel.le_iterF (fun _ => ?_))

theorem assizelaw09zalive_true : assizelaw09zalive = some true := assizelaw09zalive_le _ (by decide +kernel)
end Go.Proofs.YtmfihodpbladeaaT
