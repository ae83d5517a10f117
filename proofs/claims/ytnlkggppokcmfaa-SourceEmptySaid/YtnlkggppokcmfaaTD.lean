/- The plain functions, and what values are written as. -/
import Derived.Test.YtnlkggppokcmfaaE
namespace Go.Proofs.YtnlkggppokcmfaaT
open Go Go.Proofs Go.Proofs.YtnlkggppokcmfaaE
set_option linter.unusedVariables false
set_option linter.unusedSimpArgs false
set_option maxHeartbeats 0
set_option maxRecDepth 4096
structure IndexFact where
  key : ByteArray
  arg : Int
  deriving Inhabited, DecidableEq
def IndexFact.enc (x : IndexFact) : List Value := [.string x.key, .int .i64 x.arg]
abbrev kIndexFact : Ty IndexFact := Ty.flat 2 IndexFact.enc (fun _ => rfl) (fun _ => oneAll rfl)
instance : Flat kIndexFact IndexFact.enc := ⟨Iff.rfl, Iff.rfl⟩
structure IndexLedger where
  keys : List ByteArray
  at_ : List (ByteArray × Int)
  types : List Int
  facts : List (IndexFact × Unit)
  incs : List (ByteArray × (List Int))
  deriving Inhabited
structure Call where
  Kind : Int
  Key : ByteArray
  Arg : Int
  Got : Bool
  Vals : List Int
  deriving Inhabited
abbrev kCall : Ty Call := Ty.iso (tPair (tInt .i64) (tPair tStr (tPair (tInt .i64) (tPair tBool (tSlice 2 (tInt .i64)))))) (fun g : Call => (g.Kind, g.Key, g.Arg, g.Got, g.Vals))
abbrev kCallL (N : BM) : Ty Call := Ty.iso (tPair (tInt .i64) (tPair tStr (tPair (tInt .i64) (tPair tBool (tLent N (tInt .i64)))))) (fun g : Call => (g.Kind, g.Key, g.Arg, g.Got, g.Vals))
theorem lendsCall (N : BM) : Lends N (kCallL N) kCall := lends_iso (lends_pair lends_refl (lends_pair lends_refl (lends_pair lends_refl (lends_pair lends_refl lends_lent))))
structure Event where
  Proc : Int
  Kind : Int
  Calls : List Call
  deriving Inhabited
abbrev kEvent : Ty Event := Ty.iso (tPair (tInt .i64) (tPair (tInt .i64) (tSlice 89 kCall))) (fun g : Event => (g.Proc, g.Kind, g.Calls))
structure Op where
  Kind : Int
  Key : Int
  Arg : Int
  Got : Bool
  Vals : List Int
  deriving Inhabited
abbrev kOp : Ty Op := Ty.iso (tPair (tInt .i64) (tPair (tInt .i64) (tPair (tInt .i64) (tPair tBool (tSlice 2 (tInt .i64)))))) (fun g : Op => (g.Kind, g.Key, g.Arg, g.Got, g.Vals))
structure Txn where
  Proc : Int
  Status : Int
  From : Int
  To : Int
  Ops : List Op
  deriving Inhabited
abbrev kTxn : Ty Txn := Ty.iso (tPair (tInt .i64) (tPair (tInt .i64) (tPair (tInt .i64) (tPair (tInt .i64) (tSlice 64 kOp))))) (fun g : Txn => (g.Proc, g.Status, g.From, g.To, g.Ops))
structure History where
  Keys : List ByteArray
  Txns : List Txn
  deriving Inhabited
structure Ask where
  Txn : Int
  Place : Int
  Key : Int
  Base : List Int
  deriving Inhabited
abbrev kAsk : Ty Ask := Ty.iso (tPair (tInt .i64) (tPair (tInt .i64) (tPair (tInt .i64) (tSlice 2 (tInt .i64))))) (fun g : Ask => (g.Txn, g.Place, g.Key, g.Base))
abbrev kAskL (N : BM) : Ty Ask := Ty.iso (tPair (tInt .i64) (tPair (tInt .i64) (tPair (tInt .i64) (tLent N (tInt .i64))))) (fun g : Ask => (g.Txn, g.Place, g.Key, g.Base))
theorem lendsAsk (N : BM) : Lends N (kAskL N) kAsk := lends_iso (lends_pair lends_refl (lends_pair lends_refl (lends_pair lends_refl lends_lent)))
structure Spot where
  Txn : Int
  Place : Int
  deriving Inhabited, DecidableEq
def Spot.enc (x : Spot) : List Value := [.int .i64 x.Txn, .int .i64 x.Place]
abbrev kSpot : Ty Spot := Ty.flat 2 Spot.enc (fun _ => rfl) (fun _ => oneAll rfl)
instance : Flat kSpot Spot.enc := ⟨Iff.rfl, Iff.rfl⟩
structure LocalFound where
  asks : List Ask
  bad : List Spot
  deriving Inhabited
structure SourceFinal where
  txn : Int
  args : List Int
  deriving Inhabited
abbrev kSourceFinal : Ty SourceFinal := Ty.iso (tPair (tInt .i64) (tSlice 2 (tInt .i64))) (fun g : SourceFinal => (g.txn, g.args))
structure Assizeref05Book where
  keys : List ByteArray
  types : List Int
  wrote : List (List Int)
  incs : List Int
  last_ : List Int
  deriving Inhabited
noncomputable def slices_Index_string.s1 (a0 : List ByteArray) (a1 : ByteArray) : Int → Option (Int ⊕ Int)
  | x58 => bif decide (x58 < (a0.length : Int)) then must (0 ≤ x58 ∧ x58 < (a0.length : Int)) (bif sEq a1 (idx a0 x58) then out (some x58) else (some (.inl (w64 (x58 + 1))))) else (out (some (-1)))
noncomputable def slices_Index_string (a0 : List ByteArray) (a1 : ByteArray) : Option Int :=
  iter (slices_Index_string.s1 a0 a1) 0
noncomputable def slices_Contains_string (a0 : List ByteArray) (a1 : ByteArray) : Option Bool :=
  (slices_Index_string a0 a1).bind fun y3 => some (decide (y3 ≥ 0))
noncomputable def index_newLedger : Option IndexLedger :=
  some (⟨([] : List ByteArray), ([] : List (ByteArray × Int)), ([] : List Int), ([] : List (IndexFact × Unit)), ([] : List (ByteArray × (List Int)))⟩ : IndexLedger)
noncomputable def wire_shape (a0 : Int) : Option (Int × Int) :=
  bif (a0 == 5) then some (0, 1) else (bif (a0 == 8) then some (1, 1) else (some (0, 64)))
noncomputable def wire_sound.j5 (a0 : Call) (x130 : Int) (b135 : Bool) : Option (Int ⊕ Bool) :=
  bif b135 then must (0 ≤ w64 (x130 - 1) ∧ w64 (x130 - 1) < (a0.Vals.length : Int)) (must (0 ≤ x130 ∧ x130 < (a0.Vals.length : Int)) (bif decide (idx a0.Vals (w64 (x130 - 1)) ≥ idx a0.Vals x130) then out (some false) else (some (.inl (w64 (x130 + 1)))))) else (out (some true))
noncomputable def wire_sound.s4 (a0 : Call) : Int → Option (Int ⊕ Bool)
  | x130 => bif (a0.Kind == 7) then wire_sound.j5 a0 x130 (decide (x130 < (a0.Vals.length : Int))) else (wire_sound.j5 a0 x130 false)
noncomputable def wire_sound.j3 (a0 : Call) (b46 : Bool) : Option Bool :=
  bif b46 then some false else (iter (wire_sound.s4 a0) 1)
noncomputable def wire_sound.j2 (a0 : Call) (b33 : Bool) : Option Bool :=
  bif b33 then some false else (bif !a0.Got then some ((a0.Vals.length : Int) == 0) else ((wire_shape a0.Kind).bind fun y40 => bif decide ((a0.Vals.length : Int) < y40.1) then wire_sound.j3 a0 true else (wire_sound.j3 a0 (decide ((a0.Vals.length : Int) > y40.2)))))
noncomputable def wire_sound.j1 (a0 : Call) (a1 : Int) (b11 : Bool) : Option Bool :=
  bif b11 then some false else (bif decide (a0.Kind ≤ 4) then bif !a0.Got then bif ((a0.Vals.length : Int) == 0) then bif (a0.Kind != 4) then some true else (bif decide ((-1048576) ≤ a0.Arg) then some (decide (a0.Arg ≤ 1048576)) else (some false)) else (some false) else (some false) else (bif (a0.Arg != 0) then wire_sound.j2 a0 true else (wire_sound.j2 a0 (a0.Got != (a1 == 1)))))
noncomputable def wire_sound (a0 : Call) (a1 : Int) : Option Bool :=
  bif decide (a0.Kind < 1) then wire_sound.j1 a0 a1 true else (bif decide (a0.Kind > 8) then wire_sound.j1 a0 a1 true else (bif sEq a0.Key (⟨#[]⟩ : ByteArray) then wire_sound.j1 a0 a1 true else (wire_sound.j1 a0 a1 (decide ((a0.Key.size : Int) > 32)))))
noncomputable def wire_Check_1 (a0 : Call) (a1 : Event) : Option Bool :=
  (wire_sound a0 a1.Kind).bind fun y5 => some (!y5)
noncomputable def slices_IndexFunc_Call_wire_Check_1.s1 (a0 : List Call) (a1c0 : Event) : Int → Option (Int ⊕ Int)
  | x130 => bif decide (x130 < (a0.length : Int)) then must (0 ≤ x130 ∧ x130 < (a0.length : Int)) ((wire_Check_1 (idx a0 x130) a1c0).bind fun y181 => bif y181 then out (some x130) else (some (.inl (w64 (x130 + 1))))) else (out (some (-1)))
noncomputable def slices_IndexFunc_Call_wire_Check_1 (a0 : List Call) (a1c0 : Event) : Option Int :=
  iter (slices_IndexFunc_Call_wire_Check_1.s1 a0 a1c0) 0
noncomputable def slices_ContainsFunc_Call_wire_Check_1 (a0 : List Call) (a1c0 : Event) : Option Bool :=
  (slices_IndexFunc_Call_wire_Check_1 a0 a1c0).bind fun y3 => some (decide (y3 ≥ 0))
noncomputable def wire_Check.j2 (a0 : List Event) (x172 : Int) (b239 : Bool) : Option (Int ⊕ Int) :=
  bif b239 then out (some 1) else ((slices_ContainsFunc_Call_wire_Check_1 ((idx a0 x172).Calls) (idx a0 x172)).bind fun y244 => bif y244 then out (some 1) else (some (.inl (w64 (x172 + 1)))))
noncomputable def wire_Check.s1 (a0 : List Event) : Int → Option (Int ⊕ Int)
  | x172 => bif decide (x172 < (a0.length : Int)) then must (0 ≤ x172 ∧ x172 < (a0.length : Int)) (bif decide ((idx a0 x172).Kind < 0) then wire_Check.j2 a0 x172 true else (bif decide ((idx a0 x172).Kind > 3) then wire_Check.j2 a0 x172 true else (wire_Check.j2 a0 x172 (decide ((((idx a0 x172).Calls).length : Int) > 16))))) else (out (some 0))
noncomputable def wire_Check (a0 : List Event) : Option Int :=
  bif decide ((a0.length : Int) > 256) then some 1 else (iter (wire_Check.s1 a0) 0)
noncomputable def index_calls.j2 (a0 : History) (a1 : Txn) (l421 : List Call) (x424 : Int) : Option ((List Call × Int) ⊕ (Event × Bool)) :=
  some (.inl (l421 ++ ([(⟨(idx a1.Ops x424).Kind, idx a0.Keys ((idx a1.Ops x424).Key), (idx a1.Ops x424).Arg, (idx a1.Ops x424).Got, (idx a1.Ops x424).Vals⟩ : Call)] : List Call), w64 (x424 + 1)))
noncomputable def index_calls.j3 (a0 : History) (a1 : Txn) (l421 : List Call) (x424 : Int) (b538 : Bool) : Option ((List Call × Int) ⊕ (Event × Bool)) :=
  bif b538 then out (some ((⟨0, a1.Status, l421⟩ : Event), false)) else (must (0 ≤ (idx a1.Ops x424).Key ∧ (idx a1.Ops x424).Key < (a0.Keys.length : Int)) (must (((l421.length + 1) + (l421.length + 1) / 4 + 192) * 64 ≤ 281474976710656 ∧ l421.length + 1 ≤ 9223372036854775807) (index_calls.j2 a0 a1 l421 x424)))
noncomputable def index_calls.s1 (a0 : History) (a1 : Txn) : (List Call × Int) → Option ((List Call × Int) ⊕ (Event × Bool))
  | (l421, x424) => bif decide (x424 < (a1.Ops.length : Int)) then must (0 ≤ x424 ∧ x424 < (a1.Ops.length : Int)) (bif decide ((idx a1.Ops x424).Key < 0) then index_calls.j3 a0 a1 l421 x424 true else (index_calls.j3 a0 a1 l421 x424 (decide ((idx a1.Ops x424).Key ≥ (a0.Keys.length : Int))))) else ((wire_Check ([(⟨0, a1.Status, l421⟩ : Event)] : List Event)).bind fun y574 => out (some ((⟨0, a1.Status, l421⟩ : Event), (y574 == 0))))
noncomputable def index_calls (a0 : History) (a1 : Txn) : Option (Event × Bool) :=
  iter (index_calls.s1 a0 a1) ([], 0)
noncomputable def index_placed_1 (a0 : Txn) (a1 : Txn) : Option Bool :=
  bif (a0.Proc == a1.Proc) then bif (a0.To == (-1)) then some true else (some (decide (a0.To ≥ a1.From))) else (some false)
noncomputable def slices_IndexFunc_Txn_index_placed_1.s1 (a0 : List Txn) (a1c0 : Txn) : Int → Option (Int ⊕ Int)
  | x130 => bif decide (x130 < (a0.length : Int)) then must (0 ≤ x130 ∧ x130 < (a0.length : Int)) ((index_placed_1 (idx a0 x130) a1c0).bind fun y181 => bif y181 then out (some x130) else (some (.inl (w64 (x130 + 1))))) else (out (some (-1)))
noncomputable def slices_IndexFunc_Txn_index_placed_1 (a0 : List Txn) (a1c0 : Txn) : Option Int :=
  iter (slices_IndexFunc_Txn_index_placed_1.s1 a0 a1c0) 0
noncomputable def slices_ContainsFunc_Txn_index_placed_1 (a0 : List Txn) (a1c0 : Txn) : Option Bool :=
  (slices_IndexFunc_Txn_index_placed_1 a0 a1c0).bind fun y3 => some (decide (y3 ≥ 0))
noncomputable def index_placed.j2 (a0 : List Txn) (a1 : Txn) (b46 : Bool) : Option Bool :=
  bif b46 then some false else ((slices_ContainsFunc_Txn_index_placed_1 a0 a1).bind fun y51 => some (!y51))
noncomputable def index_placed.j1 (a0 : List Txn) (a1 : Txn) : Option Bool :=
  bif decide (a1.From < 0) then index_placed.j2 a0 a1 true else (bif decide ((a0.length : Int) > 0) then must (0 ≤ w64 ((a0.length : Int) - 1) ∧ w64 ((a0.length : Int) - 1) < (a0.length : Int)) (index_placed.j2 a0 a1 (decide ((idx a0 (w64 ((a0.length : Int) - 1))).From ≥ a1.From))) else (index_placed.j2 a0 a1 false))
noncomputable def index_placed.j4 (a0 : List Txn) (a1 : Txn) (b72 : Bool) : Option Bool :=
  bif b72 then some false else (index_placed.j1 a0 a1)
noncomputable def index_placed.j3 (a0 : List Txn) (a1 : Txn) (b66 : Bool) : Option Bool :=
  bif b66 then bif decide (a1.To ≤ a1.From) then some false else (index_placed.j1 a0 a1) else (bif (a1.Status == 3) then bif (a1.To != (-1)) then index_placed.j4 a0 a1 (decide (a1.To ≤ a1.From)) else (index_placed.j4 a0 a1 false) else (some false))
noncomputable def index_placed (a0 : List Txn) (a1 : Txn) : Option Bool :=
  bif (a1.Status == 1) then index_placed.j3 a0 a1 (a1.Status == 1) else (index_placed.j3 a0 a1 (a1.Status == 2))
noncomputable def index_typeOf (a0 : Int) : Option Int :=
  some (w64 ((bAnd .i64 (w64 (a0 - 1)) 3) + 1))
noncomputable def index_ledger_enter.j2 (l59 : List ByteArray) (m62 : List (ByteArray × Int)) (l63 : List Int) (m152 : List (IndexFact × Unit)) (m153 : List (ByteArray × (List Int))) : Option (Int × IndexLedger) :=
  some (0, (⟨l59, m62, l63, m152, m153⟩ : IndexLedger))
noncomputable def index_ledger_enter.j4 (a0 : IndexLedger) (a1 : Call) (l59 : List ByteArray) (m62 : List (ByteArray × Int)) (l63 : List Int) : Option (Int × IndexLedger) :=
  bif mhas a0.facts (⟨a1.Key, a1.Arg⟩ : IndexFact) then some (3, (⟨l59, m62, l63, a0.facts, a0.incs⟩ : IndexLedger)) else (index_ledger_enter.j2 l59 m62 l63 (mput a0.facts (⟨a1.Key, a1.Arg⟩ : IndexFact) ()) a0.incs)
noncomputable def index_ledger_enter.j5 (a0 : IndexLedger) (a1 : Call) (l59 : List ByteArray) (m62 : List (ByteArray × Int)) (l63 : List Int) (m196 : List (ByteArray × (List Int))) : Option (Int × IndexLedger) :=
  bif decide (((mat m196 a1.Key).length : Int) > 8) then some (51, (⟨l59, m62, l63, a0.facts, m196⟩ : IndexLedger)) else (index_ledger_enter.j2 l59 m62 l63 a0.facts m196)
noncomputable def index_ledger_enter.j6 (a0 : IndexLedger) (a1 : Call) (a2 : Int) (l59 : List ByteArray) (m62 : List (ByteArray × Int)) (l63 : List Int) (b223 : Bool) : Option (Int × IndexLedger) :=
  bif b223 then must (((((mat a0.incs a1.Key).length) + 1) + (((mat a0.incs a1.Key).length) + 1) / 4 + 192) * 8 ≤ 281474976710656 ∧ ((mat a0.incs a1.Key).length) + 1 ≤ 9223372036854775807) (index_ledger_enter.j5 a0 a1 l59 m62 l63 (mput a0.incs a1.Key ((mat a0.incs a1.Key) ++ ([a2] : List Int)))) else (index_ledger_enter.j5 a0 a1 l59 m62 l63 a0.incs)
noncomputable def index_ledger_enter.j3 (a0 : IndexLedger) (a1 : Call) (a2 : Int) (l59 : List ByteArray) (m62 : List (ByteArray × Int)) (l63 : List Int) (b156 : Bool) : Option (Int × IndexLedger) :=
  bif b156 then index_ledger_enter.j4 a0 a1 l59 m62 l63 else (bif (a1.Kind == 4) then bif (((mat a0.incs a1.Key).length : Int) == 0) then index_ledger_enter.j6 a0 a1 a2 l59 m62 l63 true else (must (0 ≤ w64 (((mat a0.incs a1.Key).length : Int) - 1) ∧ w64 (((mat a0.incs a1.Key).length : Int) - 1) < ((mat a0.incs a1.Key).length : Int)) (index_ledger_enter.j6 a0 a1 a2 l59 m62 l63 (idx (mat a0.incs a1.Key) (w64 (((mat a0.incs a1.Key).length : Int) - 1)) != a2))) else (index_ledger_enter.j2 l59 m62 l63 a0.facts a0.incs))
noncomputable def index_ledger_enter.j1 (a0 : IndexLedger) (a1 : Call) (a2 : Int) (l59 : List ByteArray) (m62 : List (ByteArray × Int)) (l63 : List Int) (x66 : Int) : Option (Int × IndexLedger) :=
  must (0 ≤ x66 ∧ x66 < (l63.length : Int)) ((index_typeOf a1.Kind).bind fun y79 => bif (idx l63 x66 != y79) then some (50, (⟨l59, m62, l63, a0.facts, a0.incs⟩ : IndexLedger)) else (bif (a1.Kind == 2) then index_ledger_enter.j3 a0 a1 a2 l59 m62 l63 (a1.Kind == 2) else (index_ledger_enter.j3 a0 a1 a2 l59 m62 l63 (a1.Kind == 3))))
noncomputable def index_ledger_enter.j7 (a0 : IndexLedger) (a1 : Call) (a2 : Int) : Option (Int × IndexLedger) :=
  (index_typeOf a1.Kind).bind fun y263 => must (((a0.types.length + 1) + (a0.types.length + 1) / 4 + 192) * 8 ≤ 281474976710656 ∧ a0.types.length + 1 ≤ 9223372036854775807) (index_ledger_enter.j1 a0 a1 a2 (a0.keys ++ ([a1.Key] : List ByteArray)) (mput a0.at_ a1.Key (a0.keys.length : Int)) (a0.types ++ ([y263] : List Int)) (a0.keys.length : Int))
noncomputable def index_ledger_enter (a0 : IndexLedger) (a1 : Call) (a2 : Int) : Option (Int × IndexLedger) :=
  bif !(mhas a0.at_ a1.Key) then bif ((a0.keys.length : Int) == 32) then some (2, a0) else (must (((a0.keys.length + 1) + (a0.keys.length + 1) / 4 + 192) * 16 ≤ 281474976710656 ∧ a0.keys.length + 1 ≤ 9223372036854775807) (index_ledger_enter.j7 a0 a1 a2)) else (index_ledger_enter.j1 a0 a1 a2 a0.keys a0.at_ a0.types (mat a0.at_ a1.Key))
noncomputable def index_Check.j3 (x147 : Int) (b193 : Bool) : Option (Int ⊕ Int) :=
  bif b193 then out (some 1) else (some (.inl (w64 (x147 + 1))))
noncomputable def index_Check.s6 (x1922 : Int) (y2316 : Event × Bool) : (List ByteArray × (List (ByteArray × Int)) × List Int × (List (IndexFact × Unit)) × (List (ByteArray × (List Int))) × Int) → Option ((List ByteArray × (List (ByteArray × Int)) × List Int × (List (IndexFact × Unit)) × (List (ByteArray × (List Int))) × Int) ⊕ ((List ByteArray × (List (ByteArray × Int)) × List Int × (List (IndexFact × Unit)) × (List (ByteArray × (List Int))) × Int) ⊕ (Int ⊕ Int)))
  | (l2615, m2618, l2620, m2623, m2625, x2627) => bif decide (x2627 < (y2316.1.Calls.length : Int)) then must (0 ≤ x2627 ∧ x2627 < (y2316.1.Calls.length : Int)) ((index_ledger_enter (⟨l2615, m2618, l2620, m2623, m2625⟩ : IndexLedger) (idx y2316.1.Calls x2627) x1922).bind fun y2719 => bif (y2719.1 != 0) then out (out (out (some 1))) else (some (.inl (y2719.2.keys, y2719.2.at_, y2719.2.types, y2719.2.facts, y2719.2.incs, w64 (x2627 + 1))))) else (out (some (.inl (l2615, m2618, l2620, m2623, m2625, w64 (x1922 + 1)))))
noncomputable def index_Check.j5 (l1910 : List ByteArray) (m1913 : List (ByteArray × Int)) (l1915 : List Int) (m1918 : List (IndexFact × Unit)) (m1920 : List (ByteArray × (List Int))) (x1922 : Int) (y2316 : Event × Bool) (b2339 : Bool) : Option ((List ByteArray × (List (ByteArray × Int)) × List Int × (List (IndexFact × Unit)) × (List (ByteArray × (List Int))) × Int) ⊕ (Int ⊕ Int)) :=
  bif b2339 then out (out (some 1)) else (iter (index_Check.s6 x1922 y2316) (l1910, m1913, l1915, m1918, m1920, 0))
noncomputable def index_Check.s4 (a0 : History) : (List ByteArray × (List (ByteArray × Int)) × List Int × (List (IndexFact × Unit)) × (List (ByteArray × (List Int))) × Int) → Option ((List ByteArray × (List (ByteArray × Int)) × List Int × (List (IndexFact × Unit)) × (List (ByteArray × (List Int))) × Int) ⊕ (Int ⊕ Int))
  | (l1910, m1913, l1915, m1918, m1920, x1922) => bif decide (x1922 < (a0.Txns.length : Int)) then must (0 ≤ x1922 ∧ x1922 < (a0.Txns.length : Int)) ((index_calls a0 (idx a0.Txns x1922)).bind fun y2316 => bif !y2316.2 then index_Check.j5 l1910 m1913 l1915 m1918 m1920 x1922 y2316 true else (must (0 ≤ (0 : Int) ∧ (0 : Int) ≤ x1922 ∧ x1922 ≤ (a0.Txns.length : Int)) ((index_placed (subl a0.Txns (0 : Int) x1922) (idx a0.Txns x1922)).bind fun y2735 => index_Check.j5 l1910 m1913 l1915 m1918 m1920 x1922 y2316 (!y2735)))) else (out (out (some 0)))
noncomputable def index_Check.s2 (a0 : History) : Int → Option (Int ⊕ Int)
  | x147 => bif decide (x147 < (a0.Keys.length : Int)) then must (0 ≤ x147 ∧ x147 < (a0.Keys.length : Int)) (bif sEq (idx a0.Keys x147) (⟨#[]⟩ : ByteArray) then index_Check.j3 x147 true else (bif decide (((idx a0.Keys x147).size : Int) > 32) then index_Check.j3 x147 true else (must (0 ≤ (0 : Int) ∧ (0 : Int) ≤ x147 ∧ x147 ≤ (a0.Keys.length : Int)) ((slices_Contains_string (subl a0.Keys (0 : Int) x147) (idx a0.Keys x147)).bind fun y203 => index_Check.j3 x147 y203)))) else ((index_newLedger).bind fun y215 => iter (index_Check.s4 a0) (y215.keys, y215.at_, y215.types, y215.facts, y215.incs, 0))
noncomputable def index_Check.j1 (a0 : History) (b7 : Bool) : Option Int :=
  bif b7 then some 1 else (iter (index_Check.s2 a0) 0)
noncomputable def index_Check (a0 : History) : Option Int :=
  bif decide ((a0.Keys.length : Int) > 32) then index_Check.j1 a0 true else (index_Check.j1 a0 (decide ((a0.Txns.length : Int) > 32)))
noncomputable def slices_Clone_int64 (a0 : List Int) : Option (List Int) :=
  must (a0.length * 8 ≤ 140737488355328) (some a0)
noncomputable def state_of (a0 : Int) : Option Int :=
  bif (a0 == 1) then some 171 else (bif (a0 == 2) then some 172 else (bif (a0 == 3) then some 173 else (bif (a0 == 4) then some 174 else (some (-1)))))
noncomputable def state_register_sound (a0 : Unit) (a1 : List Int) : Option Bool :=
  some (decide ((a1.length : Int) ≤ 1))
noncomputable def state_list_sound (a0 : Unit) (a1 : List Int) : Option Bool :=
  some (decide ((a1.length : Int) ≤ 64))
noncomputable def state_set_sound.s1 (a1 : List Int) : Int → Option (Int ⊕ Bool)
  | x68 => bif decide (x68 < (a1.length : Int)) then must (0 ≤ w64 (x68 - 1) ∧ w64 (x68 - 1) < (a1.length : Int)) (must (0 ≤ x68 ∧ x68 < (a1.length : Int)) (bif decide (idx a1 (w64 (x68 - 1)) ≥ idx a1 x68) then out (some false) else (some (.inl (w64 (x68 + 1)))))) else (out (some (decide ((a1.length : Int) ≤ 64))))
noncomputable def state_set_sound (a0 : Unit) (a1 : List Int) : Option Bool :=
  iter (state_set_sound.s1 a1) 1
noncomputable def state_counter_sound (a0 : Unit) (a1 : List Int) : Option Bool :=
  some ((a1.length : Int) == 1)
noncomputable def state_Check (a0 : Int) (a1 : List Int) : Option Int :=
  (state_of a0).bind fun y8 => bif (y8 == (171 : Int)) then (state_register_sound () a1).bind fun y19 => bif !y19 then some 80 else (some 0) else (bif (y8 == (172 : Int)) then (state_list_sound () a1).bind fun y31 => bif !y31 then some 80 else (some 0) else (bif (y8 == (173 : Int)) then (state_set_sound () a1).bind fun y43 => bif !y43 then some 80 else (some 0) else (bif (y8 == (174 : Int)) then (state_counter_sound () a1).bind fun y55 => bif !y55 then some 80 else (some 0) else (bif (y8 == ((-1) : Int)) then some 1 else none))))
noncomputable def state_register_without (a0 : Unit) (a1 : List Int) (a2 : List Int) : Option (List Int × Bool) :=
  bif ((a1.length : Int) == 1) then must (0 ≤ (0 : Int) ∧ (0 : Int) < (a1.length : Int)) (must (0 ≤ w64 ((a2.length : Int) - 1) ∧ w64 ((a2.length : Int) - 1) < (a2.length : Int)) (some (([] : List Int), (idx a1 (0 : Int) == idx a2 (w64 ((a2.length : Int) - 1)))))) else (some (([] : List Int), false))
noncomputable def slices_Equal_int64.s1 (a0 : List Int) (a1 : List Int) : Int → Option (Int ⊕ Bool)
  | x84 => bif decide (x84 < (a0.length : Int)) then must (0 ≤ x84 ∧ x84 < (a0.length : Int)) (must (0 ≤ x84 ∧ x84 < (a1.length : Int)) (bif (idx a0 x84 != idx a1 x84) then out (some false) else (some (.inl (w64 (x84 + 1)))))) else (out (some true))
noncomputable def slices_Equal_int64 (a0 : List Int) (a1 : List Int) : Option Bool :=
  bif ((a0.length : Int) != (a1.length : Int)) then some false else (iter (slices_Equal_int64.s1 a0 a1) 0)
noncomputable def state_list_without.j1 (a1 : List Int) (a2 : List Int) (b21 : Bool) : Option (List Int × Bool) :=
  bif b21 then some (([] : List Int), false) else (must (0 ≤ (0 : Int) ∧ (0 : Int) ≤ (w64 ((a1.length : Int) - (a2.length : Int))) ∧ (w64 ((a1.length : Int) - (a2.length : Int))) ≤ (a1.length : Int)) ((slices_Clone_int64 (subl a1 (0 : Int) (w64 ((a1.length : Int) - (a2.length : Int))))).bind fun y38 => some (y38, true)))
noncomputable def state_list_without (a0 : Unit) (a1 : List Int) (a2 : List Int) : Option (List Int × Bool) :=
  bif decide (w64 ((a1.length : Int) - (a2.length : Int)) < 0) then state_list_without.j1 a1 a2 true else (must (0 ≤ (w64 ((a1.length : Int) - (a2.length : Int))) ∧ (w64 ((a1.length : Int) - (a2.length : Int))) ≤ (a1.length : Int) ∧ (a1.length : Int) ≤ (a1.length : Int)) ((slices_Equal_int64 (subl a1 (w64 ((a1.length : Int) - (a2.length : Int))) (a1.length : Int)) a2).bind fun y48 => state_list_without.j1 a1 a2 (!y48)))
noncomputable def cmp_isNaN_int64 (a0 : Int) : Option Bool :=
  some (a0 != a0)
noncomputable def cmp_Less_int64 (a0 : Int) (a1 : Int) : Option Bool :=
  (cmp_isNaN_int64 a0).bind fun y7 => bif y7 then (cmp_isNaN_int64 a1).bind fun y10 => bif !y10 then some true else (some (decide (a0 < a1))) else (some (decide (a0 < a1)))
noncomputable def slices_isNaN_int64 (a0 : Int) : Option Bool :=
  some (a0 != a0)
noncomputable def slices_BinarySearch_int64.j2 (x126 : Int) (x127 : Int) : Option ((Int × Int) ⊕ (Int × Bool)) :=
  some (.inl (x126, x127))
noncomputable def slices_BinarySearch_int64.s1 (a0 : List Int) (a1 : Int) : (Int × Int) → Option ((Int × Int) ⊕ (Int × Bool))
  | (x115, x116) => bif decide (x115 < x116) then must (0 ≤ (1 : Int) ∧ (1 : Int) < (far : Int)) (must (0 ≤ w64 (sShr .u64 (IntKind.wrap .u64 (w64 (x115 + x116))) (1 : Int)) ∧ w64 (sShr .u64 (IntKind.wrap .u64 (w64 (x115 + x116))) (1 : Int)) < (a0.length : Int)) ((cmp_Less_int64 (idx a0 (w64 (sShr .u64 (IntKind.wrap .u64 (w64 (x115 + x116))) (1 : Int)))) a1).bind fun y139 => bif y139 then slices_BinarySearch_int64.j2 (w64 ((w64 (sShr .u64 (IntKind.wrap .u64 (w64 (x115 + x116))) (1 : Int))) + 1)) x116 else (slices_BinarySearch_int64.j2 x115 (w64 (sShr .u64 (IntKind.wrap .u64 (w64 (x115 + x116))) (1 : Int)))))) else (bif decide (x115 < (a0.length : Int)) then must (0 ≤ x115 ∧ x115 < (a0.length : Int)) (bif (idx a0 x115 == a1) then out (some (x115, true)) else ((slices_isNaN_int64 (idx a0 x115)).bind fun y157 => bif y157 then (slices_isNaN_int64 a1).bind fun y160 => out (some (x115, y160)) else (out (some (x115, false))))) else (out (some (x115, false))))
noncomputable def slices_BinarySearch_int64 (a0 : List Int) (a1 : Int) : Option (Int × Bool) :=
  iter (slices_BinarySearch_int64.s1 a0 a1) (0, (a0.length : Int))
noncomputable def slices_Delete_int64 (a0 : List Int) (a1 a2 : Int) : Option (List Int) :=
  must (0 ≤ a1 ∧ a1 ≤ a2 ∧ a2 ≤ (a0.length : Int)) (some (a0.take a1.toNat ++ a0.drop a2.toNat))
noncomputable def state_set_without.s1 (a2 : List Int) : (List Int × Int) → Option ((List Int × Int) ⊕ (List Int × Bool))
  | (l207, x210) => bif decide (x210 < (a2.length : Int)) then must (0 ≤ x210 ∧ x210 < (a2.length : Int)) ((slices_BinarySearch_int64 l207 (idx a2 x210)).bind fun y251 => bif !y251.2 then out (some (([] : List Int), false)) else ((slices_Delete_int64 l207 y251.1 (w64 (y251.1 + 1))).bind fun y260 => some (.inl (y260, w64 (x210 + 1))))) else (out (some (l207, true)))
noncomputable def state_set_without (a0 : Unit) (a1 : List Int) (a2 : List Int) : Option (List Int × Bool) :=
  (slices_Clone_int64 a1).bind fun y7 => iter (state_set_without.s1 a2) (y7, 0)
noncomputable def state_counter_without.s1 (a2 : List Int) : (Int × Int) → Option ((Int × Int) ⊕ (List Int × Bool))
  | (x75, x76) => bif decide (x76 < (a2.length : Int)) then must (0 ≤ x76 ∧ x76 < (a2.length : Int)) (some (.inl (w64 (x75 - (idx a2 x76)), w64 (x76 + 1)))) else (out (some (([x75] : List Int), true)))
noncomputable def state_counter_without (a0 : Unit) (a1 : List Int) (a2 : List Int) : Option (List Int × Bool) :=
  must (0 ≤ (0 : Int) ∧ (0 : Int) < (a1.length : Int)) (iter (state_counter_without.s1 a2) (idx a1 (0 : Int), 0))
noncomputable def state_Before.j1 (a0 : Int) (a1 : List Int) (a2 : List Int) (b9 : Bool) : Option (List Int × Bool) :=
  bif b9 then some (([] : List Int), false) else ((state_of a0).bind fun y35 => bif (y35 == (171 : Int)) then (state_register_without () a1 a2).bind fun y38 => some (y38.1, y38.2) else (bif (y35 == (172 : Int)) then (state_list_without () a1 a2).bind fun y43 => some (y43.1, y43.2) else (bif (y35 == (173 : Int)) then (state_set_without () a1 a2).bind fun y48 => some (y48.1, y48.2) else (bif (y35 == (174 : Int)) then (state_counter_without () a1 a2).bind fun y53 => some (y53.1, y53.2) else (bif (y35 == ((-1) : Int)) then none else none)))))
noncomputable def state_Before (a0 : Int) (a1 : List Int) (a2 : List Int) : Option (List Int × Bool) :=
  (state_Check a0 a1).bind fun y58 => bif (y58 != 0) then state_Before.j1 a0 a1 a2 true else (state_Before.j1 a0 a1 a2 ((a2.length : Int) == 0))
noncomputable def local_found_look.j2 (x716 : Int) (l938 : List Ask) (l941 : List Spot) (m944 : List (Int × (List Int))) : Option ((List Ask × List Spot × (List (Int × (List Int))) × Int) ⊕ LocalFound) :=
  some (.inl (l938, l941, m944, w64 (x716 + 1)))
noncomputable def local_found_look.j3 (a1 : History) (a2 : Int) (l709 : List Ask) (l712 : List Spot) (m715 : List (Int × (List Int))) (x716 : Int) (l1129 : List Int) (b1132 : Bool) : Option ((List Ask × List Spot × (List (Int × (List Int))) × Int) ⊕ LocalFound) :=
  bif !b1132 then must (((l712.length + 1) + (l712.length + 1) / 4 + 192) * 16 ≤ 281474976710656 ∧ l712.length + 1 ≤ 9223372036854775807) (local_found_look.j2 x716 l709 (l712 ++ ([(⟨a2, x716⟩ : Spot)] : List Spot)) m715) else (must (((l709.length + 1) + (l709.length + 1) / 4 + 192) * 48 ≤ 281474976710656 ∧ l709.length + 1 ≤ 9223372036854775807) (local_found_look.j2 x716 (l709 ++ ([(⟨a2, x716, (idx ((idx a1.Txns a2).Ops) x716).Key, l1129⟩ : Ask)] : List Ask)) l712 m715))
noncomputable def local_found_look.j4 (a1 : History) (a2 : Int) (l709 : List Ask) (l712 : List Spot) (m715 : List (Int × (List Int))) (x716 : Int) (y1187 : List Int × Bool) (b1192 : Bool) : Option ((List Ask × List Spot × (List (Int × (List Int))) × Int) ⊕ LocalFound) :=
  bif b1192 then local_found_look.j2 x716 l709 l712 m715 else (local_found_look.j3 a1 a2 l709 l712 m715 x716 y1187.1 y1187.2)
noncomputable def local_found_look.s1 (a1 : History) (a2 : Int) : (List Ask × List Spot × (List (Int × (List Int))) × Int) → Option ((List Ask × List Spot × (List (Int × (List Int))) × Int) ⊕ LocalFound)
  | (l709, l712, m715, x716) => bif decide (x716 < (((idx a1.Txns a2).Ops).length : Int)) then must (0 ≤ x716 ∧ x716 < (((idx a1.Txns a2).Ops).length : Int)) (bif decide ((idx ((idx a1.Txns a2).Ops) x716).Kind ≤ 4) then must (((((mat m715 ((idx ((idx a1.Txns a2).Ops) x716).Key)).length) + 1) + (((mat m715 ((idx ((idx a1.Txns a2).Ops) x716).Key)).length) + 1) / 4 + 192) * 8 ≤ 281474976710656 ∧ ((mat m715 ((idx ((idx a1.Txns a2).Ops) x716).Key)).length) + 1 ≤ 9223372036854775807) (local_found_look.j2 x716 l709 l712 (mput m715 ((idx ((idx a1.Txns a2).Ops) x716).Key) ((mat m715 ((idx ((idx a1.Txns a2).Ops) x716).Key)) ++ ([(idx ((idx a1.Txns a2).Ops) x716).Arg] : List Int)))) else ((slices_Clone_int64 ((idx ((idx a1.Txns a2).Ops) x716).Vals)).bind fun y1112 => bif decide (((mat m715 ((idx ((idx a1.Txns a2).Ops) x716).Key)).length : Int) > 0) then (state_Before (w64 (((idx ((idx a1.Txns a2).Ops) x716).Kind) - 4)) ((idx ((idx a1.Txns a2).Ops) x716).Vals) (mat m715 ((idx ((idx a1.Txns a2).Ops) x716).Key))).bind fun y1187 => bif y1187.2 then local_found_look.j4 a1 a2 l709 l712 m715 x716 y1187 ((idx ((idx a1.Txns a2).Ops) x716).Kind == 5) else (local_found_look.j4 a1 a2 l709 l712 m715 x716 y1187 false) else (local_found_look.j3 a1 a2 l709 l712 m715 x716 y1112 true))) else (out (some (⟨l709, l712⟩ : LocalFound)))
noncomputable def local_found_look (a0 : LocalFound) (a1 : History) (a2 : Int) : Option LocalFound :=
  must (0 ≤ a2 ∧ a2 < (a1.Txns.length : Int)) (bif ((idx a1.Txns a2).Status != 1) then some a0 else (iter (local_found_look.s1 a1 a2) (a0.asks, a0.bad, [], 0)))
noncomputable def local_all.s1 (a0 : History) : (List Ask × List Spot × Int) → Option ((List Ask × List Spot × Int) ⊕ (LocalFound × Int))
  | (l230, l233, x236) => bif decide (x236 < (a0.Txns.length : Int)) then (local_found_look (⟨l230, l233⟩ : LocalFound) a0 x236).bind fun y266 => some (.inl (y266.asks, y266.bad, w64 (x236 + 1))) else (out (some ((⟨l230, l233⟩ : LocalFound), 0)))
noncomputable def local_all (a0 : History) : Option (LocalFound × Int) :=
  (index_Check a0).bind fun y12 => bif (y12 != 0) then some ((⟨([] : List Ask), ([] : List Spot)⟩ : LocalFound), y12) else (iter (local_all.s1 a0) ([], [], 0))
noncomputable def local_Asks (a0 : History) : Option (List Ask × Int) :=
  (local_all a0).bind fun y10 => some (y10.1.asks, y10.2)
noncomputable def index_Type.s2 (a0 : History) (a1 : Int) (x532 : Int) : Int → Option (Int ⊕ (Int ⊕ Int))
  | x767 => bif decide (x767 < (((idx a0.Txns x532).Ops).length : Int)) then must (0 ≤ x767 ∧ x767 < (((idx a0.Txns x532).Ops).length : Int)) (bif ((idx ((idx a0.Txns x532).Ops) x767).Key == a1) then (index_typeOf ((idx ((idx a0.Txns x532).Ops) x767).Kind)).bind fun y823 => out (out (some y823)) else (some (.inl (w64 (x767 + 1))))) else (out (some (.inl (w64 (x532 + 1)))))
noncomputable def index_Type.s1 (a0 : History) (a1 : Int) : Int → Option (Int ⊕ Int)
  | x532 => bif decide (x532 < (a0.Txns.length : Int)) then must (0 ≤ x532 ∧ x532 < (a0.Txns.length : Int)) (iter (index_Type.s2 a0 a1 x532) 0) else (out (some 0))
noncomputable def index_Type (a0 : History) (a1 : Int) : Option Int :=
  (index_Check a0).bind fun y8 => bif (y8 != 0) then some 0 else (iter (index_Type.s1 a0 a1) 0)
noncomputable def index_wrote.j2 (x258 : Int) (l302 : List Int) : Option ((List Int × Int) ⊕ (List Int)) :=
  some (.inl (l302, w64 (x258 + 1)))
noncomputable def index_wrote.j3 (a0 : Txn) (l255 : List Int) (x258 : Int) (b329 : Bool) : Option ((List Int × Int) ⊕ (List Int)) :=
  bif b329 then must (((l255.length + 1) + (l255.length + 1) / 4 + 192) * 8 ≤ 281474976710656 ∧ l255.length + 1 ≤ 9223372036854775807) (index_wrote.j2 x258 (l255 ++ ([(idx a0.Ops x258).Arg] : List Int))) else (index_wrote.j2 x258 l255)
noncomputable def index_wrote.s1 (a0 : Txn) (a1 : Int) : (List Int × Int) → Option ((List Int × Int) ⊕ (List Int))
  | (l255, x258) => bif decide (x258 < (a0.Ops.length : Int)) then must (0 ≤ x258 ∧ x258 < (a0.Ops.length : Int)) (bif ((idx a0.Ops x258).Key == a1) then index_wrote.j3 a0 l255 x258 (decide ((idx a0.Ops x258).Kind ≤ 4)) else (index_wrote.j3 a0 l255 x258 false)) else (out (some l255))
noncomputable def index_wrote (a0 : Txn) (a1 : Int) : Option (List Int) :=
  iter (index_wrote.s1 a0 a1) ([], 0)
noncomputable def index_Writers.j2 (x298 : Int) (l350 : List Int) : Option ((List Int × Int) ⊕ (List Int)) :=
  some (.inl (l350, w64 (x298 + 1)))
noncomputable def index_Writers.j3 (l295 : List Int) (x298 : Int) (b381 : Bool) : Option ((List Int × Int) ⊕ (List Int)) :=
  bif b381 then must (((l295.length + 1) + (l295.length + 1) / 4 + 192) * 8 ≤ 281474976710656 ∧ l295.length + 1 ≤ 9223372036854775807) (index_Writers.j2 x298 (l295 ++ ([x298] : List Int))) else (index_Writers.j2 x298 l295)
noncomputable def index_Writers.s1 (a0 : History) (a1 : Int) : (List Int × Int) → Option ((List Int × Int) ⊕ (List Int))
  | (l295, x298) => bif decide (x298 < (a0.Txns.length : Int)) then must (0 ≤ x298 ∧ x298 < (a0.Txns.length : Int)) (bif ((idx a0.Txns x298).Status != 2) then (index_wrote (idx a0.Txns x298) a1).bind fun y390 => index_Writers.j3 l295 x298 (decide ((y390.length : Int) > 0)) else (index_Writers.j3 l295 x298 false)) else (out (some l295))
noncomputable def index_Writers (a0 : History) (a1 : Int) : Option (List Int) :=
  (index_Check a0).bind fun y8 => bif (y8 != 0) then some ([] : List Int) else (iter (index_Writers.s1 a0 a1) ([], 0))
noncomputable def index_Final.j1 (a0 : History) (a1 : Int) (a2 : Int) (b13 : Bool) : Option (List Int × Bool) :=
  bif b13 then some (([] : List Int), false) else (must (0 ≤ a1 ∧ a1 < (a0.Txns.length : Int)) ((index_wrote (idx a0.Txns a1) a2).bind fun y40 => some (y40, decide ((y40.length : Int) > 0))))
noncomputable def index_Final (a0 : History) (a1 : Int) (a2 : Int) : Option (List Int × Bool) :=
  bif decide (a1 < 0) then index_Final.j1 a0 a1 a2 true else (bif decide (a1 ≥ (a0.Txns.length : Int)) then index_Final.j1 a0 a1 a2 true else ((index_Check a0).bind fun y46 => index_Final.j1 a0 a1 a2 (y46 != 0)))
noncomputable def source_finals.j2 (x232 : Int) (l266 : List SourceFinal) : Option ((List SourceFinal × Int) ⊕ (List SourceFinal)) :=
  some (.inl (l266, w64 (x232 + 1)))
noncomputable def source_finals.j3 (y91 : List Int) (l229 : List SourceFinal) (x232 : Int) (y278 : List Int × Bool) (b283 : Bool) : Option ((List SourceFinal × Int) ⊕ (List SourceFinal)) :=
  bif b283 then must (((l229.length + 1) + (l229.length + 1) / 4 + 192) * 32 ≤ 281474976710656 ∧ l229.length + 1 ≤ 9223372036854775807) (source_finals.j2 x232 (l229 ++ ([(⟨idx y91 x232, y278.1⟩ : SourceFinal)] : List SourceFinal))) else (source_finals.j2 x232 l229)
noncomputable def source_finals.s1 (a0 : History) (a1 : Ask) (y91 : List Int) : (List SourceFinal × Int) → Option ((List SourceFinal × Int) ⊕ (List SourceFinal))
  | (l229, x232) => bif decide (x232 < (y91.length : Int)) then must (0 ≤ x232 ∧ x232 < (y91.length : Int)) ((index_Final a0 (idx y91 x232) a1.Key).bind fun y278 => bif y278.2 then source_finals.j3 y91 l229 x232 y278 (idx y91 x232 != a1.Txn) else (source_finals.j3 y91 l229 x232 y278 false)) else (out (some l229))
noncomputable def source_finals (a0 : History) (a1 : Ask) : Option (List SourceFinal) :=
  (index_Writers a0 a1.Key).bind fun y91 => iter (source_finals.s1 a0 a1 y91) ([], 0)
noncomputable def source_list_1 (a0 : SourceFinal) (a1 : List Int) : Option Bool :=
  must (0 ≤ (0 : Int) ∧ (0 : Int) < (a0.args.length : Int)) (must (0 ≤ (0 : Int) ∧ (0 : Int) < (a1.length : Int)) (some (idx a0.args (0 : Int) == idx a1 (0 : Int))))
noncomputable def slices_Index_int.s1 (a0 : List Int) (a1 : Int) : Int → Option (Int ⊕ Int)
  | x58 => bif decide (x58 < (a0.length : Int)) then must (0 ≤ x58 ∧ x58 < (a0.length : Int)) (bif (a1 == idx a0 x58) then out (some x58) else (some (.inl (w64 (x58 + 1))))) else (out (some (-1)))
noncomputable def slices_Index_int (a0 : List Int) (a1 : Int) : Option Int :=
  iter (slices_Index_int.s1 a0 a1) 0
noncomputable def slices_Contains_int (a0 : List Int) (a1 : Int) : Option Bool :=
  (slices_Index_int a0 a1).bind fun y3 => some (decide (y3 ≥ 0))
noncomputable def slices_IndexFunc_final_source_list_1.s1 (a0 : List SourceFinal) (a1c0 : List Int) : Int → Option (Int ⊕ Int)
  | x130 => bif decide (x130 < (a0.length : Int)) then must (0 ≤ x130 ∧ x130 < (a0.length : Int)) ((source_list_1 (idx a0 x130) a1c0).bind fun y181 => bif y181 then out (some x130) else (some (.inl (w64 (x130 + 1))))) else (out (some (-1)))
noncomputable def slices_IndexFunc_final_source_list_1 (a0 : List SourceFinal) (a1c0 : List Int) : Option Int :=
  iter (slices_IndexFunc_final_source_list_1.s1 a0 a1c0) 0
noncomputable def source_list.j2 (a1 : List SourceFinal) (l739 : List Int) (l744 : List Int) (y825 : Int) (b915 : Bool) : Option ((List Int × List Int) ⊕ (List Int × Bool)) :=
  bif b915 then out (some (([] : List Int), false)) else (must (0 ≤ y825 ∧ y825 < (a1.length : Int)) (must (((l744.length + 1) + (l744.length + 1) / 4 + 192) * 8 ≤ 281474976710656 ∧ l744.length + 1 ≤ 9223372036854775807) (must (0 ≤ (((idx a1 y825).args).length : Int) ∧ (((idx a1 y825).args).length : Int) ≤ (l739.length : Int) ∧ (l739.length : Int) ≤ (l739.length : Int)) (some (.inl (subl l739 (((idx a1 y825).args).length : Int) (l739.length : Int), l744 ++ ([(idx a1 y825).txn] : List Int)))))))
noncomputable def source_list.s1 (a1 : List SourceFinal) : (List Int × List Int) → Option ((List Int × List Int) ⊕ (List Int × Bool))
  | (l739, l744) => bif decide ((l739.length : Int) > 0) then (slices_IndexFunc_final_source_list_1 a1 l739).bind fun y825 => bif decide (y825 < 0) then source_list.j2 a1 l739 l744 y825 true else (must (0 ≤ y825 ∧ y825 < (a1.length : Int)) (bif decide ((((idx a1 y825).args).length : Int) > (l739.length : Int)) then source_list.j2 a1 l739 l744 y825 true else (must (0 ≤ (0 : Int) ∧ (0 : Int) ≤ (((idx a1 y825).args).length : Int) ∧ (((idx a1 y825).args).length : Int) ≤ (l739.length : Int)) ((slices_Equal_int64 ((idx a1 y825).args) (subl l739 (0 : Int) (((idx a1 y825).args).length : Int))).bind fun y991 => bif !y991 then source_list.j2 a1 l739 l744 y825 true else ((slices_Contains_int l744 ((idx a1 y825).txn)).bind fun y1001 => source_list.j2 a1 l739 l744 y825 y1001))))) else (out (some (l744, true)))
noncomputable def source_list (a0 : List Int) (a1 : List SourceFinal) : Option (List Int × Bool) :=
  iter (source_list.s1 a1) (a0, [])
noncomputable def source_set.j3 (x710 : Int) (l841 : List Int) (m844 : List (Int × Unit)) : Option ((List Int × (List (Int × Unit)) × Int) ⊕ (((List (Int × Unit)) × Int) ⊕ (List Int × Bool))) :=
  some (.inl (l841, m844, w64 (x710 + 1)))
noncomputable def source_set.j5 (x985 : Int) (m1000 : List (Int × Unit)) (x1001 : Int) : Option (((List (Int × Unit)) × Int × Int) ⊕ ((List Int × (List (Int × Unit)) × Int) ⊕ (((List (Int × Unit)) × Int) ⊕ (List Int × Bool)))) :=
  some (.inl (m1000, x1001, w64 (x985 + 1)))
noncomputable def source_set.j6 (a1 : List SourceFinal) (l706 : List Int) (x710 : Int) (m983 : List (Int × Unit)) (x984 : Int) (b1016 : Bool) : Option (((List (Int × Unit)) × Int × Int) ⊕ ((List Int × (List (Int × Unit)) × Int) ⊕ (((List (Int × Unit)) × Int) ⊕ (List Int × Bool)))) :=
  bif b1016 then out (out (out (some (([] : List Int), false)))) else (bif decide (x984 > 0) then must (((l706.length + 1) + (l706.length + 1) / 4 + 192) * 8 ≤ 281474976710656 ∧ l706.length + 1 ≤ 9223372036854775807) (out (source_set.j3 x710 (l706 ++ ([(idx a1 x710).txn] : List Int)) m983)) else (out (source_set.j3 x710 l706 m983)))
noncomputable def source_set.s4 (a1 : List SourceFinal) (l706 : List Int) (x710 : Int) : ((List (Int × Unit)) × Int × Int) → Option (((List (Int × Unit)) × Int × Int) ⊕ ((List Int × (List (Int × Unit)) × Int) ⊕ (((List (Int × Unit)) × Int) ⊕ (List Int × Bool))))
  | (m983, x984, x985) => bif decide (x985 < (((idx a1 x710).args).length : Int)) then must (0 ≤ x985 ∧ x985 < (((idx a1 x710).args).length : Int)) (bif mhas m983 (idx ((idx a1 x710).args) x985) then source_set.j5 x985 (mdel m983 (idx ((idx a1 x710).args) x985)) (w64 (x984 + 1)) else (source_set.j5 x985 m983 x984)) else (bif decide (x984 > 0) then source_set.j6 a1 l706 x710 m983 x984 (decide (x984 < (((idx a1 x710).args).length : Int))) else (source_set.j6 a1 l706 x710 m983 x984 false))
noncomputable def source_set.s2 (a1 : List SourceFinal) : (List Int × (List (Int × Unit)) × Int) → Option ((List Int × (List (Int × Unit)) × Int) ⊕ (((List (Int × Unit)) × Int) ⊕ (List Int × Bool)))
  | (l706, m709, x710) => bif decide (x710 < (a1.length : Int)) then must (0 ≤ x710 ∧ x710 < (a1.length : Int)) (iter (source_set.s4 a1 l706 x710) (m709, 0, 0)) else (bif decide ((m709.length : Int) > 0) then out (out (some (([] : List Int), false))) else (out (out (some (l706, true)))))
noncomputable def source_set.s1 (a0 : List Int) (a1 : List SourceFinal) : ((List (Int × Unit)) × Int) → Option (((List (Int × Unit)) × Int) ⊕ (List Int × Bool))
  | (m69, x70) => bif decide (x70 < (a0.length : Int)) then must (0 ≤ x70 ∧ x70 < (a0.length : Int)) (some (.inl (mput m69 (idx a0 x70) (), w64 (x70 + 1)))) else (iter (source_set.s2 a1) ([], m69, 0))
noncomputable def source_set (a0 : List Int) (a1 : List SourceFinal) : Option (List Int × Bool) :=
  iter (source_set.s1 a0 a1) ([], 0)
noncomputable def source_parts (a0 : History) (a1 : Ask) : Option (List Int × Bool) :=
  (index_Type a0 a1.Key).bind fun y27 => bif (y27 == 2) then (source_finals a0 a1).bind fun y56 => (source_list a1.Base y56).bind fun y60 => some (y60.1, y60.2) else (bif (y27 == 3) then (source_finals a0 a1).bind fun y73 => (source_set a1.Base y73).bind fun y77 => some (y77.1, y77.2) else (some (([] : List Int), false)))
noncomputable def source_counter_1.s1 (a0 : Int) (a2 : Int) (a3 : List SourceFinal) (a4 : Int) (rec : Int → Int → Int → (List SourceFinal) → Int → Int → Option Int) (y19 : Int) : (Int × Int) → Option ((Int × Int) ⊕ Int)
  | (x117, x118) => bif decide (x118 < (((idx a3 a0).args).length : Int)) then must (0 ≤ x118 ∧ x118 < (((idx a3 a0).args).length : Int)) (some (.inl (w64 (x117 + (idx ((idx a3 a0).args) x118)), w64 (x118 + 1)))) else (must (0 ≤ a0 ∧ a0 < (far : Int)) ((rec (w64 (a0 + 1)) x117 (bOr .u64 a2 (sShl .u64 1 a0)) a3 a4 y19).bind fun y139 => out (some y139)))
noncomputable def source_counter_1.body (rec : Int → Int → Int → (List SourceFinal) → Int → Int → Option Int) (a0 : Int) (a1 : Int) (a2 : Int) (a3 : List SourceFinal) (a4 : Int) (a5 : Int) : Option Int :=
  bif (a0 == (a3.length : Int)) then bif (a1 == a4) then some (bOr .u64 a5 a2) else (some a5) else ((rec (w64 (a0 + 1)) a1 a2 a3 a4 a5).bind fun y19 => must (0 ≤ a0 ∧ a0 < (a3.length : Int)) (iter (source_counter_1.s1 a0 a2 a3 a4 rec y19) (a1, 0)))
noncomputable def source_counter_1.fuel : Nat → Int → Int → Int → (List SourceFinal) → Int → Int → Option Int
  | 0 => fun _ _ _ _ _ _ => none
  | k + 1 => source_counter_1.body (source_counter_1.fuel k)
noncomputable def source_counter_1 (a0 : Int) (a1 : Int) (a2 : Int) (a3 : List SourceFinal) (a4 : Int) (a5 : Int) : Option Int := source_counter_1.fuel 64 a0 a1 a2 a3 a4 a5
noncomputable def source_counter.j2 (x270 : Int) (l312 : List Int) : Option ((List Int × Int) ⊕ (List Int)) :=
  some (.inl (l312, w64 (x270 + 1)))
noncomputable def source_counter.s1 (a1 : List SourceFinal) (y21 : Int) : (List Int × Int) → Option ((List Int × Int) ⊕ (List Int))
  | (l267, x270) => bif decide (x270 < (a1.length : Int)) then must (0 ≤ x270 ∧ x270 < (a1.length : Int)) (must (0 ≤ x270 ∧ x270 < (far : Int)) (bif (bAnd .u64 (sShr .u64 y21 x270) 1 == 1) then must (((l267.length + 1) + (l267.length + 1) / 4 + 192) * 8 ≤ 281474976710656 ∧ l267.length + 1 ≤ 9223372036854775807) (source_counter.j2 x270 (l267 ++ ([(idx a1 x270).txn] : List Int))) else (source_counter.j2 x270 l267))) else (out (some l267))
noncomputable def source_counter (a0 : Int) (a1 : List SourceFinal) : Option (List Int) :=
  (source_counter_1 0 0 0 a1 a0 0).bind fun y21 => iter (source_counter.s1 a1 y21) ([], 0)
noncomputable def source_sources.j1 (l344 : List Int) : Option (List Int) :=
  some l344
noncomputable def source_sources.j2 (a0 : History) (a1 : Ask) (l358 : List Int) : Option (List Int) :=
  must (0 ≤ (0 : Int) ∧ (0 : Int) < (a1.Base.length : Int)) ((source_finals a0 a1).bind fun y365 => (source_counter (idx a1.Base (0 : Int)) y365).bind fun y369 => must (((l358.length + y369.length) + (l358.length + y369.length) / 4 + 192) * 8 ≤ 281474976710656 ∧ l358.length + y369.length ≤ 9223372036854775807) (source_sources.j1 (l358 ++ y369)))
noncomputable def source_sources.j4 (x602 : Int) (l654 : List Int) : Option ((List Int × Int) ⊕ (List Int)) :=
  some (.inl (l654, w64 (x602 + 1)))
noncomputable def source_sources.s3 (a1 : Ask) (y406 : List SourceFinal) : (List Int × Int) → Option ((List Int × Int) ⊕ (List Int))
  | (l599, x602) => bif decide (x602 < (y406.length : Int)) then must (0 ≤ x602 ∧ x602 < (y406.length : Int)) (must (0 ≤ w64 ((((idx y406 x602).args).length : Int) - 1) ∧ w64 ((((idx y406 x602).args).length : Int) - 1) < (((idx y406 x602).args).length : Int)) (must (0 ≤ (0 : Int) ∧ (0 : Int) < (a1.Base.length : Int)) (bif (idx ((idx y406 x602).args) (w64 ((((idx y406 x602).args).length : Int) - 1)) == idx a1.Base (0 : Int)) then must (((l599.length + 1) + (l599.length + 1) / 4 + 192) * 8 ≤ 281474976710656 ∧ l599.length + 1 ≤ 9223372036854775807) (source_sources.j4 x602 (l599 ++ ([(idx y406 x602).txn] : List Int))) else (source_sources.j4 x602 l599)))) else (out (source_sources.j1 l599))
noncomputable def source_sources (a0 : History) (a1 : Ask) : Option (List Int) :=
  (index_Type a0 a1.Key).bind fun y177 => bif (y177 == 4) then must (0 ≤ (0 : Int) ∧ (0 : Int) < (a1.Base.length : Int)) (bif (idx a1.Base (0 : Int) == 0) then must (((0 + 1) + (0 + 1) / 4 + 192) * 8 ≤ 281474976710656 ∧ 0 + 1 ≤ 9223372036854775807) (source_sources.j2 a0 a1 (([] : List Int) ++ ([(-1)] : List Int))) else (source_sources.j2 a0 a1 [])) else (bif ((a1.Base.length : Int) == 0) then source_sources.j1 ([(-1)] : List Int) else (bif (y177 == 1) then (source_finals a0 a1).bind fun y406 => iter (source_sources.s3 a1 y406) ([], 0) else (bif (y177 == 2) then (source_parts a0 a1).bind fun y703 => bif y703.2 then must (0 ≤ (w64 ((y703.1.length : Int) - 1)) ∧ (w64 ((y703.1.length : Int) - 1)) ≤ (y703.1.length : Int) ∧ (y703.1.length : Int) ≤ (y703.1.length : Int)) (source_sources.j1 (subl y703.1 (w64 ((y703.1.length : Int) - 1)) (y703.1.length : Int))) else (source_sources.j1 []) else ((source_parts a0 a1).bind fun y713 => source_sources.j1 y713.1))))
noncomputable def source_Empty_1 (a0 : Ask) (a1 : History) : Option Bool :=
  (source_sources a1 a0).bind fun y7 => some (decide ((y7.length : Int) > 0))
noncomputable def slices_IndexFunc_Ask_source_Empty_1.s1 (a0 : List Ask) (a1c0 : History) : Int → Option (Int ⊕ Int)
  | x130 => bif decide (x130 < (a0.length : Int)) then must (0 ≤ x130 ∧ x130 < (a0.length : Int)) ((source_Empty_1 (idx a0 x130) a1c0).bind fun y181 => bif y181 then out (some x130) else (some (.inl (w64 (x130 + 1))))) else (out (some (-1)))
noncomputable def slices_IndexFunc_Ask_source_Empty_1 (a0 : List Ask) (a1c0 : History) : Option Int :=
  iter (slices_IndexFunc_Ask_source_Empty_1.s1 a0 a1c0) 0
noncomputable def slices_DeleteFunc_Ask_source_Empty_1.s1 (a0 : List Ask) (a1c0 : History) : List Ask × Int → Option ((List Ask × Int) ⊕ List Ask)
  | (l, x) => bif decide (x < (a0.length : Int)) then must (0 ≤ x ∧ x < (a0.length : Int)) ((source_Empty_1 (idx a0 x) a1c0).bind fun y => bif !y then (some (.inl (l ++ [idx a0 x], w64 (x + 1)))) else (some (.inl (l, w64 (x + 1))))) else (out (some l))
noncomputable def slices_DeleteFunc_Ask_source_Empty_1 (a0 : List Ask) (a1c0 : History) : Option (List Ask) :=
  (slices_IndexFunc_Ask_source_Empty_1 a0 a1c0).bind fun i => bif i == -1 then some a0 else must (0 ≤ i ∧ i < (a0.length : Int)) (iter (slices_DeleteFunc_Ask_source_Empty_1.s1 a0 a1c0) (a0.take i.toNat, w64 (i + 1)))
noncomputable def source_Empty (a0 : History) : Option (List Ask × Int) :=
  (local_Asks a0).bind fun y7 => bif (y7.2 != 0) then some (([] : List Ask), y7.2) else ((slices_DeleteFunc_Ask_source_Empty_1 y7.1 a0).bind fun y27 => some (y27, 0))
noncomputable def source_known_1 (a0 : Ask) (a1 : Ask) : Option Bool :=
  bif (a1.Txn == a0.Txn) then bif (a1.Place == a0.Place) then bif (a1.Key == a0.Key) then (slices_Equal_int64 a1.Base a0.Base).bind fun y11 => some y11 else (some false) else (some false) else (some false)
noncomputable def slices_IndexFunc_Ask_source_known_1.s1 (a0 : List Ask) (a1c0 : Ask) : Int → Option (Int ⊕ Int)
  | x130 => bif decide (x130 < (a0.length : Int)) then must (0 ≤ x130 ∧ x130 < (a0.length : Int)) ((source_known_1 (idx a0 x130) a1c0).bind fun y181 => bif y181 then out (some x130) else (some (.inl (w64 (x130 + 1))))) else (out (some (-1)))
noncomputable def slices_IndexFunc_Ask_source_known_1 (a0 : List Ask) (a1c0 : Ask) : Option Int :=
  iter (slices_IndexFunc_Ask_source_known_1.s1 a0 a1c0) 0
noncomputable def slices_ContainsFunc_Ask_source_known_1 (a0 : List Ask) (a1c0 : Ask) : Option Bool :=
  (slices_IndexFunc_Ask_source_known_1 a0 a1c0).bind fun y3 => some (decide (y3 ≥ 0))
noncomputable def source_known (a0 : History) (a1 : Ask) : Option Int :=
  (local_Asks a0).bind fun y9 => bif (y9.2 != 0) then some y9.2 else ((slices_ContainsFunc_Ask_source_known_1 y9.1 a1).bind fun y20 => bif y20 then some 0 else (some 1))
noncomputable def source_Sources (a0 : History) (a1 : Ask) : Option (List Int × Int) :=
  (source_known a0 a1).bind fun y10 => bif (y10 != 0) then some (([] : List Int), y10) else ((source_sources a0 a1).bind fun y17 => some (y17, 0))
noncomputable def assizelaw10zalive : Option Bool :=
  (source_Sources (⟨([(⟨#[120]⟩ : ByteArray)] : List ByteArray), ([(⟨0, 1, 0, 1, ([(⟨1, 0, 5, false, ([] : List Int)⟩ : Op)] : List Op)⟩ : Txn), (⟨0, 1, 2, 3, ([(⟨5, 0, 0, true, ([5] : List Int)⟩ : Op)] : List Op)⟩ : Txn)] : List Txn)⟩ : History) (⟨1, 0, 0, ([5] : List Int)⟩ : Ask)).bind fun y31 => (source_Empty (⟨([(⟨#[120]⟩ : ByteArray)] : List ByteArray), ([(⟨0, 1, 0, 1, ([(⟨1, 0, 5, false, ([] : List Int)⟩ : Op)] : List Op)⟩ : Txn), (⟨0, 1, 2, 3, ([(⟨5, 0, 0, true, ([5] : List Int)⟩ : Op)] : List Op)⟩ : Txn)] : List Txn)⟩ : History)).bind fun y39 => bif (y31.2 == 0) then bif ((y31.1.length : Int) == 1) then must (0 ≤ (0 : Int) ∧ (0 : Int) < (y31.1.length : Int)) (bif (idx y31.1 (0 : Int) == 0) then bif (y39.2 == 0) then some ((y39.1.length : Int) == 0) else (some false) else (some false)) else (some false) else (some false)
noncomputable def assizeref05zfind.s1 (a0 : List ByteArray) (a1 : ByteArray) : Int → Option (Int ⊕ Int)
  | x58 => bif decide (x58 < (a0.length : Int)) then must (0 ≤ x58 ∧ x58 < (a0.length : Int)) (bif sEq (idx a0 x58) a1 then out (some x58) else (some (.inl (w64 (x58 + 1))))) else (out (some (-1)))
noncomputable def assizeref05zfind (a0 : List ByteArray) (a1 : ByteArray) : Option Int :=
  iter (assizeref05zfind.s1 a0 a1) 0
noncomputable def assizeref05znames.j2 (x138 : Int) (b181 : Bool) : Option (Int ⊕ Bool) :=
  bif b181 then out (some false) else (some (.inl (w64 (x138 + 1))))
noncomputable def assizeref05znames.s1 (a0 : List ByteArray) : Int → Option (Int ⊕ Bool)
  | x138 => bif decide (x138 < (a0.length : Int)) then must (0 ≤ x138 ∧ x138 < (a0.length : Int)) (bif decide (((idx a0 x138).size : Int) < 1) then assizeref05znames.j2 x138 true else (bif decide (((idx a0 x138).size : Int) > 32) then assizeref05znames.j2 x138 true else (must (0 ≤ (0 : Int) ∧ (0 : Int) ≤ x138 ∧ x138 ≤ (a0.length : Int)) ((assizeref05zfind (subl a0 (0 : Int) x138) (idx a0 x138)).bind fun y194 => assizeref05znames.j2 x138 (decide (y194 ≥ 0)))))) else (out (some (decide ((a0.length : Int) ≤ 32))))
noncomputable def assizeref05znames (a0 : List ByteArray) : Option Bool :=
  iter (assizeref05znames.s1 a0) 0
noncomputable def assizeref05zplaced.j4 (x298 : Int) (b377 : Bool) : Option (Int ⊕ Bool) :=
  bif b377 then out (some false) else (some (.inl (w64 (x298 + 1))))
noncomputable def assizeref05zplaced.s3 (a0 : List Txn) (a1 : Int) : Int → Option (Int ⊕ Bool)
  | x298 => bif decide (x298 < a1) then must (0 ≤ x298 ∧ x298 < (a0.length : Int)) (bif ((idx a0 x298).Proc == (idx a0 a1).Proc) then bif ((idx a0 x298).To == (-1)) then assizeref05zplaced.j4 x298 true else (assizeref05zplaced.j4 x298 (decide ((idx a0 x298).To ≥ (idx a0 a1).From))) else (assizeref05zplaced.j4 x298 false)) else (out (some true))
noncomputable def assizeref05zplaced.j2 (a0 : List Txn) (a1 : Int) (b62 : Bool) : Option Bool :=
  bif b62 then some false else (iter (assizeref05zplaced.s3 a0 a1) 0)
noncomputable def assizeref05zplaced.j1 (a0 : List Txn) (a1 : Int) (b39 : Bool) : Option Bool :=
  bif b39 then some false else (bif decide (a1 > 0) then must (0 ≤ w64 (a1 - 1) ∧ w64 (a1 - 1) < (a0.length : Int)) (assizeref05zplaced.j2 a0 a1 (decide ((idx a0 a1).From ≤ (idx a0 (w64 (a1 - 1))).From))) else (assizeref05zplaced.j2 a0 a1 false))
noncomputable def assizeref05zplaced (a0 : List Txn) (a1 : Int) : Option Bool :=
  must (0 ≤ a1 ∧ a1 < (a0.length : Int)) (bif decide ((idx a0 a1).Status < 1) then assizeref05zplaced.j1 a0 a1 true else (bif decide ((idx a0 a1).Status > 3) then assizeref05zplaced.j1 a0 a1 true else (bif decide ((idx a0 a1).From < 0) then assizeref05zplaced.j1 a0 a1 true else (bif ((idx a0 a1).To != (-1)) then bif decide ((idx a0 a1).To ≤ (idx a0 a1).From) then assizeref05zplaced.j1 a0 a1 true else (bif ((idx a0 a1).To == (-1)) then assizeref05zplaced.j1 a0 a1 ((idx a0 a1).Status != 3) else (assizeref05zplaced.j1 a0 a1 false)) else (bif ((idx a0 a1).To == (-1)) then assizeref05zplaced.j1 a0 a1 ((idx a0 a1).Status != 3) else (assizeref05zplaced.j1 a0 a1 false))))))
noncomputable def assizeref03zcall.j3 (a0 : Call) : Option Bool :=
  some (decide ((a0.Vals.length : Int) ≤ 64))
noncomputable def assizeref03zcall.s4 (a0 : Call) : Int → Option (Int ⊕ Bool)
  | x145 => bif decide (x145 < (a0.Vals.length : Int)) then must (0 ≤ x145 ∧ x145 < (a0.Vals.length : Int)) (must (0 ≤ w64 (x145 - 1) ∧ w64 (x145 - 1) < (a0.Vals.length : Int)) (bif decide (idx a0.Vals x145 ≤ idx a0.Vals (w64 (x145 - 1))) then out (some false) else (some (.inl (w64 (x145 + 1)))))) else (out (assizeref03zcall.j3 a0))
noncomputable def assizeref03zcall.j2 (a0 : Call) (b37 : Bool) : Option Bool :=
  bif b37 then some false else (bif (a0.Kind == 5) then some (decide ((a0.Vals.length : Int) ≤ 1)) else (bif (a0.Kind == 8) then bif !a0.Got then some true else (some ((a0.Vals.length : Int) == 1)) else (bif (a0.Kind == 7) then iter (assizeref03zcall.s4 a0) 1 else (assizeref03zcall.j3 a0))))
noncomputable def assizeref03zcall.j1 (a0 : Call) (a1 : Int) (b11 : Bool) : Option Bool :=
  bif b11 then some false else (bif decide (a0.Kind ≤ 4) then bif !a0.Got then bif ((a0.Vals.length : Int) == 0) then bif (a0.Kind != 4) then some true else (bif decide (a0.Arg ≥ (-1048576)) then some (decide (a0.Arg ≤ 1048576)) else (some false)) else (some false) else (some false) else (bif (a0.Arg != 0) then assizeref03zcall.j2 a0 true else (bif (a0.Got != (a1 == 1)) then assizeref03zcall.j2 a0 true else (bif !a0.Got then assizeref03zcall.j2 a0 (decide ((a0.Vals.length : Int) > 0)) else (assizeref03zcall.j2 a0 false)))))
noncomputable def assizeref03zcall (a0 : Call) (a1 : Int) : Option Bool :=
  bif decide (a0.Kind < 1) then assizeref03zcall.j1 a0 a1 true else (bif decide (a0.Kind > 8) then assizeref03zcall.j1 a0 a1 true else (bif decide ((a0.Key.size : Int) < 1) then assizeref03zcall.j1 a0 a1 true else (assizeref03zcall.j1 a0 a1 (decide ((a0.Key.size : Int) > 32)))))
noncomputable def assizeref03zsound.s2 (a0 : Event) : Int → Option (Int ⊕ Bool)
  | x141 => bif decide (x141 < (a0.Calls.length : Int)) then must (0 ≤ x141 ∧ x141 < (a0.Calls.length : Int)) ((assizeref03zcall (idx a0.Calls x141) a0.Kind).bind fun y192 => bif !y192 then out (some false) else (some (.inl (w64 (x141 + 1))))) else (out (some true))
noncomputable def assizeref03zsound.j1 (a0 : Event) (b9 : Bool) : Option Bool :=
  bif b9 then some false else (iter (assizeref03zsound.s2 a0) 0)
noncomputable def assizeref03zsound (a0 : Event) : Option Bool :=
  bif decide (a0.Kind < 0) then assizeref03zsound.j1 a0 true else (bif decide (a0.Kind > 3) then assizeref03zsound.j1 a0 true else (assizeref03zsound.j1 a0 (decide ((a0.Calls.length : Int) > 16))))
noncomputable def assizeref03zCheck.s1 (a0 : List Event) : Int → Option (Int ⊕ Int)
  | x132 => bif decide (x132 < (a0.length : Int)) then must (0 ≤ x132 ∧ x132 < (a0.length : Int)) ((assizeref03zsound (idx a0 x132)).bind fun y183 => bif !y183 then out (some 1) else (some (.inl (w64 (x132 + 1))))) else (out (some 0))
noncomputable def assizeref03zCheck (a0 : List Event) : Option Int :=
  bif decide ((a0.length : Int) > 256) then some 1 else (iter (assizeref03zCheck.s1 a0) 0)
noncomputable def assizeref05zOf (a0 : Int) : Option Int :=
  some (w64 (((w64 (a0 - 1)).tmod (4 : Int)) + 1))
noncomputable def assizeref05zbook_enter.j3 (l81 : List ByteArray) (l84 : List Int) (l219 : List (List Int)) (l233 : List Int) (l236 : List Int) : Option (Int × Assizeref05Book) :=
  some (0, (⟨l81, l84, l219, l233, l236⟩ : Assizeref05Book))
noncomputable def assizeref05zbook_enter.j4 (a2 : Int) (l81 : List ByteArray) (l84 : List Int) (l90 : List Int) (l93 : List Int) (x96 : Int) (l219 : List (List Int)) (b243 : Bool) : Option (Int × Assizeref05Book) :=
  bif b243 then must (0 ≤ x96 ∧ x96 < (l93.length : Int)) (must (0 ≤ x96 ∧ x96 < (l90.length : Int)) (bif decide (idx (l90.set x96.toNat (w64 ((idx l90 x96) + 1))) x96 > 8) then some (51, (⟨l81, l84, l219, l90.set x96.toNat (w64 ((idx l90 x96) + 1)), l93.set x96.toNat a2⟩ : Assizeref05Book)) else (assizeref05zbook_enter.j3 l81 l84 l219 (l90.set x96.toNat (w64 ((idx l90 x96) + 1))) (l93.set x96.toNat a2)))) else (assizeref05zbook_enter.j3 l81 l84 l219 l90 l93)
noncomputable def assizeref05zbook_enter.j2 (a1 : Call) (a2 : Int) (l81 : List ByteArray) (l84 : List Int) (l90 : List Int) (l93 : List Int) (x96 : Int) (l219 : List (List Int)) : Option (Int × Assizeref05Book) :=
  bif (a1.Kind == 4) then must (0 ≤ x96 ∧ x96 < (l93.length : Int)) (assizeref05zbook_enter.j4 a2 l81 l84 l90 l93 x96 l219 (idx l93 x96 != a2)) else (assizeref05zbook_enter.j4 a2 l81 l84 l90 l93 x96 l219 false)
noncomputable def assizeref05zbook_enter.s6 (a1 : Call) (a2 : Int) (l81 : List ByteArray) (l84 : List Int) (l87 : List (List Int)) (l90 : List Int) (l93 : List Int) (x96 : Int) : Int → Option (Int ⊕ (Int × Assizeref05Book))
  | x447 => must (0 ≤ x96 ∧ x96 < (l87.length : Int)) (bif decide (x447 < ((idx l87 x96).length : Int)) then must (0 ≤ x447 ∧ x447 < ((idx l87 x96).length : Int)) (bif (idx (idx l87 x96) x447 == a1.Arg) then out (some (3, (⟨l81, l84, l87, l90, l93⟩ : Assizeref05Book))) else (some (.inl (w64 (x447 + 1))))) else (must (((((idx l87 x96).length) + 1) + (((idx l87 x96).length) + 1) / 4 + 192) * 8 ≤ 281474976710656 ∧ ((idx l87 x96).length) + 1 ≤ 9223372036854775807) (out (assizeref05zbook_enter.j2 a1 a2 l81 l84 l90 l93 x96 (l87.set x96.toNat ((idx l87 x96) ++ ([a1.Arg] : List Int)))))))
noncomputable def assizeref05zbook_enter.j5 (a1 : Call) (a2 : Int) (l81 : List ByteArray) (l84 : List Int) (l87 : List (List Int)) (l90 : List Int) (l93 : List Int) (x96 : Int) (b259 : Bool) : Option (Int × Assizeref05Book) :=
  bif b259 then iter (assizeref05zbook_enter.s6 a1 a2 l81 l84 l87 l90 l93 x96) 0 else (assizeref05zbook_enter.j2 a1 a2 l81 l84 l90 l93 x96 l87)
noncomputable def assizeref05zbook_enter.j1 (a1 : Call) (a2 : Int) (l81 : List ByteArray) (l84 : List Int) (l87 : List (List Int)) (l90 : List Int) (l93 : List Int) (x96 : Int) : Option (Int × Assizeref05Book) :=
  must (0 ≤ x96 ∧ x96 < (l84.length : Int)) ((assizeref05zOf a1.Kind).bind fun y109 => bif (idx l84 x96 != y109) then some (50, (⟨l81, l84, l87, l90, l93⟩ : Assizeref05Book)) else (bif (a1.Kind == 2) then assizeref05zbook_enter.j5 a1 a2 l81 l84 l87 l90 l93 x96 true else (assizeref05zbook_enter.j5 a1 a2 l81 l84 l87 l90 l93 x96 (a1.Kind == 3))))
noncomputable def assizeref05zbook_enter.j8 (a0 : Assizeref05Book) (a1 : Call) (a2 : Int) (l614 : List Int) : Option (Int × Assizeref05Book) :=
  must (((a0.wrote.length + 1) + (a0.wrote.length + 1) / 4 + 192) * 24 ≤ 281474976710656 ∧ a0.wrote.length + 1 ≤ 9223372036854775807) (must (((a0.incs.length + 1) + (a0.incs.length + 1) / 4 + 192) * 8 ≤ 281474976710656 ∧ a0.incs.length + 1 ≤ 9223372036854775807) (must (((a0.last_.length + 1) + (a0.last_.length + 1) / 4 + 192) * 8 ≤ 281474976710656 ∧ a0.last_.length + 1 ≤ 9223372036854775807) (assizeref05zbook_enter.j1 a1 a2 (a0.keys ++ ([a1.Key] : List ByteArray)) l614 (a0.wrote ++ ([([] : List Int)] : List (List Int))) (a0.incs ++ ([0] : List Int)) (a0.last_ ++ ([(-1)] : List Int)) (a0.keys.length : Int))))
noncomputable def assizeref05zbook_enter.j7 (a0 : Assizeref05Book) (a1 : Call) (a2 : Int) : Option (Int × Assizeref05Book) :=
  (assizeref05zOf a1.Kind).bind fun y643 => must (((a0.types.length + 1) + (a0.types.length + 1) / 4 + 192) * 8 ≤ 281474976710656 ∧ a0.types.length + 1 ≤ 9223372036854775807) (assizeref05zbook_enter.j8 a0 a1 a2 (a0.types ++ ([y643] : List Int)))
noncomputable def assizeref05zbook_enter (a0 : Assizeref05Book) (a1 : Call) (a2 : Int) : Option (Int × Assizeref05Book) :=
  (assizeref05zfind a0.keys a1.Key).bind fun y5 => bif decide (y5 < 0) then bif decide ((a0.keys.length : Int) ≥ 32) then some (2, a0) else (must (((a0.keys.length + 1) + (a0.keys.length + 1) / 4 + 192) * 16 ≤ 281474976710656 ∧ a0.keys.length + 1 ≤ 9223372036854775807) (assizeref05zbook_enter.j7 a0 a1 a2)) else (assizeref05zbook_enter.j1 a1 a2 a0.keys a0.types a0.wrote a0.incs a0.last_ y5)
noncomputable def assizeref05zCheck.j5 (a0 : History) (x3151 : Int) (l4311 : List Call) (x4314 : Int) : Option ((List Call × Int) ⊕ ((List ByteArray × List Int × (List (List Int)) × List Int × List Int × Int) ⊕ Int)) :=
  some (.inl (l4311 ++ ([(⟨(idx ((idx a0.Txns x3151).Ops) x4314).Kind, idx a0.Keys ((idx ((idx a0.Txns x3151).Ops) x4314).Key), (idx ((idx a0.Txns x3151).Ops) x4314).Arg, (idx ((idx a0.Txns x3151).Ops) x4314).Got, (idx ((idx a0.Txns x3151).Ops) x4314).Vals⟩ : Call)] : List Call), w64 (x4314 + 1)))
noncomputable def assizeref05zCheck.j6 (a0 : History) (x3151 : Int) (l4311 : List Call) (x4314 : Int) (b4428 : Bool) : Option ((List Call × Int) ⊕ ((List ByteArray × List Int × (List (List Int)) × List Int × List Int × Int) ⊕ Int)) :=
  bif b4428 then out (out (some 1)) else (must (0 ≤ (idx ((idx a0.Txns x3151).Ops) x4314).Key ∧ (idx ((idx a0.Txns x3151).Ops) x4314).Key < (a0.Keys.length : Int)) (must (((l4311.length + 1) + (l4311.length + 1) / 4 + 192) * 64 ≤ 281474976710656 ∧ l4311.length + 1 ≤ 9223372036854775807) (assizeref05zCheck.j5 a0 x3151 l4311 x4314)))
noncomputable def assizeref05zCheck.s7 (x3151 : Int) (l4311 : List Call) : (List ByteArray × List Int × (List (List Int)) × List Int × List Int × Int) → Option ((List ByteArray × List Int × (List (List Int)) × List Int × List Int × Int) ⊕ ((List Call × Int) ⊕ ((List ByteArray × List Int × (List (List Int)) × List Int × List Int × Int) ⊕ Int)))
  | (l4788, l4791, l4794, l4797, l4800, x4803) => bif decide (x4803 < (l4311.length : Int)) then must (0 ≤ x4803 ∧ x4803 < (l4311.length : Int)) ((assizeref05zbook_enter (⟨l4788, l4791, l4794, l4797, l4800⟩ : Assizeref05Book) (idx l4311 x4803) x3151).bind fun y4900 => bif (y4900.1 != 0) then out (out (out (some 1))) else (some (.inl (y4900.2.keys, y4900.2.types, y4900.2.wrote, y4900.2.incs, y4900.2.last_, w64 (x4803 + 1))))) else (out (out (some (.inl (l4788, l4791, l4794, l4797, l4800, w64 (x3151 + 1))))))
noncomputable def assizeref05zCheck.s4 (a0 : History) (l3136 : List ByteArray) (l3139 : List Int) (l3142 : List (List Int)) (l3145 : List Int) (l3148 : List Int) (x3151 : Int) : (List Call × Int) → Option ((List Call × Int) ⊕ ((List ByteArray × List Int × (List (List Int)) × List Int × List Int × Int) ⊕ Int))
  | (l4311, x4314) => bif decide (x4314 < (((idx a0.Txns x3151).Ops).length : Int)) then must (0 ≤ x4314 ∧ x4314 < (((idx a0.Txns x3151).Ops).length : Int)) (bif decide ((idx ((idx a0.Txns x3151).Ops) x4314).Key < 0) then assizeref05zCheck.j6 a0 x3151 l4311 x4314 true else (assizeref05zCheck.j6 a0 x3151 l4311 x4314 (decide ((idx ((idx a0.Txns x3151).Ops) x4314).Key ≥ (a0.Keys.length : Int))))) else ((assizeref03zCheck ([(⟨0, (idx a0.Txns x3151).Status, l4311⟩ : Event)] : List Event)).bind fun y4469 => bif (y4469 != 0) then out (out (some 1)) else (iter (assizeref05zCheck.s7 x3151 l4311) (l3136, l3139, l3142, l3145, l3148, 0)))
noncomputable def assizeref05zCheck.j3 (a0 : History) (l3136 : List ByteArray) (l3139 : List Int) (l3142 : List (List Int)) (l3145 : List Int) (l3148 : List Int) (x3151 : Int) (b3894 : Bool) : Option ((List ByteArray × List Int × (List (List Int)) × List Int × List Int × Int) ⊕ Int) :=
  bif b3894 then out (some 1) else (iter (assizeref05zCheck.s4 a0 l3136 l3139 l3142 l3145 l3148 x3151) ([], 0))
noncomputable def assizeref05zCheck.s2 (a0 : History) : (List ByteArray × List Int × (List (List Int)) × List Int × List Int × Int) → Option ((List ByteArray × List Int × (List (List Int)) × List Int × List Int × Int) ⊕ Int)
  | (l3136, l3139, l3142, l3145, l3148, x3151) => bif decide (x3151 < (a0.Txns.length : Int)) then must (0 ≤ x3151 ∧ x3151 < (a0.Txns.length : Int)) ((assizeref05zplaced a0.Txns x3151).bind fun y4913 => bif !y4913 then assizeref05zCheck.j3 a0 l3136 l3139 l3142 l3145 l3148 x3151 true else (assizeref05zCheck.j3 a0 l3136 l3139 l3142 l3145 l3148 x3151 (decide ((((idx a0.Txns x3151).Ops).length : Int) > 16)))) else (out (some 0))
noncomputable def assizeref05zCheck.j1 (a0 : History) (b11 : Bool) : Option Int :=
  bif b11 then some 1 else (iter (assizeref05zCheck.s2 a0) ([], [], [], [], [], 0))
noncomputable def assizeref05zCheck (a0 : History) : Option Int :=
  (assizeref05znames a0.Keys).bind fun y4916 => bif !y4916 then assizeref05zCheck.j1 a0 true else (assizeref05zCheck.j1 a0 (decide ((a0.Txns.length : Int) > 32)))
noncomputable def assizeref05zWrites (a0 : Int) : Option Bool :=
  some (decide (a0 ≤ 4))
noncomputable def assizeref08zCheck.j2 (b81 : Bool) : Option Int :=
  bif !b81 then some 80 else (some 0)
noncomputable def assizeref08zCheck.j4 (x146 : Int) (b160 : Bool) : Option ((Bool × Int) ⊕ Int) :=
  some (.inl (b160, w64 (x146 + 1)))
noncomputable def assizeref08zCheck.s3 (a1 : List Int) : (Bool × Int) → Option ((Bool × Int) ⊕ Int)
  | (b145, x146) => bif decide (x146 < (a1.length : Int)) then bif b145 then must (0 ≤ w64 (x146 - 1) ∧ w64 (x146 - 1) < (a1.length : Int)) (must (0 ≤ x146 ∧ x146 < (a1.length : Int)) (assizeref08zCheck.j4 x146 (decide (idx a1 (w64 (x146 - 1)) < idx a1 x146)))) else (assizeref08zCheck.j4 x146 false) else (out (assizeref08zCheck.j2 b145))
noncomputable def assizeref08zCheck.j1 (a0 : Int) (a1 : List Int) (b5 : Bool) : Option Int :=
  bif b5 then some 1 else (bif (a0 == 1) then assizeref08zCheck.j2 (decide ((a1.length : Int) ≤ 1)) else (bif (a0 == 4) then assizeref08zCheck.j2 ((a1.length : Int) == 1) else (bif (a0 == 3) then iter (assizeref08zCheck.s3 a1) (decide ((a1.length : Int) ≤ 64), 1) else (assizeref08zCheck.j2 (decide ((a1.length : Int) ≤ 64))))))
noncomputable def assizeref08zCheck (a0 : Int) (a1 : List Int) : Option Int :=
  bif decide (a0 < 1) then assizeref08zCheck.j1 a0 a1 true else (assizeref08zCheck.j1 a0 a1 (decide (a0 > 4)))
noncomputable def assizeref08zin.s1 (a0 : List Int) (a1 : Int) : Int → Option (Int ⊕ Bool)
  | x58 => bif decide (x58 < (a0.length : Int)) then must (0 ≤ x58 ∧ x58 < (a0.length : Int)) (bif (idx a0 x58 == a1) then out (some true) else (some (.inl (w64 (x58 + 1))))) else (out (some false))
noncomputable def assizeref08zin (a0 : List Int) (a1 : Int) : Option Bool :=
  iter (assizeref08zin.s1 a0 a1) 0
noncomputable def assizeref08zBefore.s2 (a2 : List Int) : (Int × Int) → Option ((Int × Int) ⊕ (List Int × Bool))
  | (x260, x261) => bif decide (x261 < (a2.length : Int)) then must (0 ≤ x261 ∧ x261 < (a2.length : Int)) (some (.inl (w64 (x260 - (idx a2 x261)), w64 (x261 + 1)))) else (out (some (([x260] : List Int), true)))
noncomputable def assizeref08zBefore.s3 (a1 : List Int) (a2 : List Int) : Int → Option (Int ⊕ (List Int × Bool))
  | x361 => bif decide (x361 < (a2.length : Int)) then must (0 ≤ w64 ((w64 ((a1.length : Int) - (a2.length : Int))) + x361) ∧ w64 ((w64 ((a1.length : Int) - (a2.length : Int))) + x361) < (a1.length : Int)) (must (0 ≤ x361 ∧ x361 < (a2.length : Int)) (bif (idx a1 (w64 ((w64 ((a1.length : Int) - (a2.length : Int))) + x361)) != idx a2 x361) then out (some (([] : List Int), false)) else (some (.inl (w64 (x361 + 1)))))) else (must (0 ≤ (0 : Int) ∧ (0 : Int) ≤ (w64 ((a1.length : Int) - (a2.length : Int))) ∧ (w64 ((a1.length : Int) - (a2.length : Int))) ≤ (a1.length : Int)) (must (((0 + ((subl a1 (0 : Int) (w64 ((a1.length : Int) - (a2.length : Int)))).length)) + (0 + ((subl a1 (0 : Int) (w64 ((a1.length : Int) - (a2.length : Int)))).length)) / 4 + 192) * 8 ≤ 281474976710656 ∧ 0 + ((subl a1 (0 : Int) (w64 ((a1.length : Int) - (a2.length : Int)))).length) ≤ 9223372036854775807) (out (some (([] : List Int) ++ (subl a1 (0 : Int) (w64 ((a1.length : Int) - (a2.length : Int)))), true)))))
noncomputable def assizeref08zBefore.j5 (x554 : Int) (b600 : Bool) : Option (Int ⊕ (List Int × Bool)) :=
  bif b600 then out (some (([] : List Int), false)) else (some (.inl (w64 (x554 + 1))))
noncomputable def assizeref08zBefore.j7 (x807 : Int) (l835 : List Int) : Option ((List Int × Int) ⊕ (Int ⊕ (List Int × Bool))) :=
  some (.inl (l835, w64 (x807 + 1)))
noncomputable def assizeref08zBefore.s6 (a1 : List Int) (a2 : List Int) : (List Int × Int) → Option ((List Int × Int) ⊕ (Int ⊕ (List Int × Bool)))
  | (l804, x807) => bif decide (x807 < (a1.length : Int)) then must (0 ≤ x807 ∧ x807 < (a1.length : Int)) ((assizeref08zin a2 (idx a1 x807)).bind fun y847 => bif !y847 then must (((l804.length + 1) + (l804.length + 1) / 4 + 192) * 8 ≤ 281474976710656 ∧ l804.length + 1 ≤ 9223372036854775807) (assizeref08zBefore.j7 x807 (l804 ++ ([idx a1 x807] : List Int))) else (assizeref08zBefore.j7 x807 l804)) else (out (out (some (l804, true))))
noncomputable def assizeref08zBefore.s4 (a1 : List Int) (a2 : List Int) : Int → Option (Int ⊕ (List Int × Bool))
  | x554 => bif decide (x554 < (a2.length : Int)) then must (0 ≤ x554 ∧ x554 < (a2.length : Int)) ((assizeref08zin a1 (idx a2 x554)).bind fun y606 => bif !y606 then assizeref08zBefore.j5 x554 true else (must (0 ≤ (0 : Int) ∧ (0 : Int) ≤ x554 ∧ x554 ≤ (a2.length : Int)) ((assizeref08zin (subl a2 (0 : Int) x554) (idx a2 x554)).bind fun y614 => assizeref08zBefore.j5 x554 y614))) else (iter (assizeref08zBefore.s6 a1 a2) ([], 0))
noncomputable def assizeref08zBefore.j1 (a0 : Int) (a1 : List Int) (a2 : List Int) (b9 : Bool) : Option (List Int × Bool) :=
  bif b9 then some (([] : List Int), false) else (bif (a0 == 1) then bif ((a1.length : Int) == 1) then must (0 ≤ (0 : Int) ∧ (0 : Int) < (a1.length : Int)) (must (0 ≤ w64 ((a2.length : Int) - 1) ∧ w64 ((a2.length : Int) - 1) < (a2.length : Int)) (some (([] : List Int), (idx a1 (0 : Int) == idx a2 (w64 ((a2.length : Int) - 1)))))) else (some (([] : List Int), false)) else (bif (a0 == 4) then must (0 ≤ (0 : Int) ∧ (0 : Int) < (a1.length : Int)) (iter (assizeref08zBefore.s2 a2) (idx a1 (0 : Int), 0)) else (bif (a0 == 2) then bif decide ((a2.length : Int) > (a1.length : Int)) then some (([] : List Int), false) else (iter (assizeref08zBefore.s3 a1 a2) 0) else (iter (assizeref08zBefore.s4 a1 a2) 0))))
noncomputable def assizeref08zBefore (a0 : Int) (a1 : List Int) (a2 : List Int) : Option (List Int × Bool) :=
  (assizeref08zCheck a0 a1).bind fun y855 => bif (y855 != 0) then assizeref08zBefore.j1 a0 a1 a2 true else (assizeref08zBefore.j1 a0 a1 a2 ((a2.length : Int) == 0))
noncomputable def assizeref09zof.j2 (x1602 : Int) (l1961 : List Ask) (l1964 : List Spot) : Option ((List Ask × List Spot × Int) ⊕ (List Ask × List Spot)) :=
  some (.inl (l1961, l1964, w64 (x1602 + 1)))
noncomputable def assizeref09zof.j4 (x2365 : Int) (l2437 : List Int) : Option ((List Int × Int) ⊕ ((List Ask × List Spot × Int) ⊕ (List Ask × List Spot))) :=
  some (.inl (l2437, w64 (x2365 + 1)))
noncomputable def assizeref09zof.j5 (a0 : History) (a1 : Int) (l2362 : List Int) (x2365 : Int) (b2459 : Bool) : Option ((List Int × Int) ⊕ ((List Ask × List Spot × Int) ⊕ (List Ask × List Spot))) :=
  bif b2459 then must (0 ≤ x2365 ∧ x2365 < (((idx a0.Txns a1).Ops).length : Int)) (must (((l2362.length + 1) + (l2362.length + 1) / 4 + 192) * 8 ≤ 281474976710656 ∧ l2362.length + 1 ≤ 9223372036854775807) (assizeref09zof.j4 x2365 (l2362 ++ ([(idx ((idx a0.Txns a1).Ops) x2365).Arg] : List Int)))) else (assizeref09zof.j4 x2365 l2362)
noncomputable def assizeref09zof.j6 (a0 : History) (a1 : Int) (l1596 : List Ask) (l1599 : List Spot) (x1602 : Int) (l2515 : List Int) : Option ((List Int × Int) ⊕ ((List Ask × List Spot × Int) ⊕ (List Ask × List Spot))) :=
  must (((l1596.length + 1) + (l1596.length + 1) / 4 + 192) * 48 ≤ 281474976710656 ∧ l1596.length + 1 ≤ 9223372036854775807) (out (assizeref09zof.j2 x1602 (l1596 ++ ([(⟨a1, x1602, (idx ((idx a0.Txns a1).Ops) x1602).Key, l2515⟩ : Ask)] : List Ask)) l1599))
noncomputable def assizeref09zof.s3 (a0 : History) (a1 : Int) (l1596 : List Ask) (l1599 : List Spot) (x1602 : Int) : (List Int × Int) → Option ((List Int × Int) ⊕ ((List Ask × List Spot × Int) ⊕ (List Ask × List Spot)))
  | (l2362, x2365) => bif decide (x2365 < x1602) then must (0 ≤ x2365 ∧ x2365 < (((idx a0.Txns a1).Ops).length : Int)) (bif ((idx ((idx a0.Txns a1).Ops) x2365).Key == (idx ((idx a0.Txns a1).Ops) x1602).Key) then (assizeref05zWrites ((idx ((idx a0.Txns a1).Ops) x2365).Kind)).bind fun y2491 => assizeref09zof.j5 a0 a1 l2362 x2365 y2491 else (assizeref09zof.j5 a0 a1 l2362 x2365 false)) else (must (((0 + (((idx ((idx a0.Txns a1).Ops) x1602).Vals).length)) + (0 + (((idx ((idx a0.Txns a1).Ops) x1602).Vals).length)) / 4 + 192) * 8 ≤ 281474976710656 ∧ 0 + (((idx ((idx a0.Txns a1).Ops) x1602).Vals).length) ≤ 9223372036854775807) (bif decide ((l2362.length : Int) > 0) then (assizeref05zOf ((idx ((idx a0.Txns a1).Ops) x1602).Kind)).bind fun y2531 => (assizeref08zBefore y2531 ((idx ((idx a0.Txns a1).Ops) x1602).Vals) l2362).bind fun y2533 => bif !y2533.2 then must (((l1599.length + 1) + (l1599.length + 1) / 4 + 192) * 16 ≤ 281474976710656 ∧ l1599.length + 1 ≤ 9223372036854775807) (out (assizeref09zof.j2 x1602 l1596 (l1599 ++ ([(⟨a1, x1602⟩ : Spot)] : List Spot)))) else (bif ((idx ((idx a0.Txns a1).Ops) x1602).Kind == 5) then out (assizeref09zof.j2 x1602 l1596 l1599) else (assizeref09zof.j6 a0 a1 l1596 l1599 x1602 y2533.1)) else (assizeref09zof.j6 a0 a1 l1596 l1599 x1602 (([] : List Int) ++ ((idx ((idx a0.Txns a1).Ops) x1602).Vals)))))
noncomputable def assizeref09zof.s1 (a0 : History) (a1 : Int) : (List Ask × List Spot × Int) → Option ((List Ask × List Spot × Int) ⊕ (List Ask × List Spot))
  | (l1596, l1599, x1602) => bif decide (x1602 < (((idx a0.Txns a1).Ops).length : Int)) then must (0 ≤ x1602 ∧ x1602 < (((idx a0.Txns a1).Ops).length : Int)) ((assizeref05zWrites ((idx ((idx a0.Txns a1).Ops) x1602).Kind)).bind fun y1995 => bif y1995 then assizeref09zof.j2 x1602 l1596 l1599 else (iter (assizeref09zof.s3 a0 a1 l1596 l1599 x1602) ([], 0))) else (out (some (l1596, l1599)))
noncomputable def assizeref09zof (a0 : History) (a1 : Int) : Option (List Ask × List Spot) :=
  must (0 ≤ a1 ∧ a1 < (a0.Txns.length : Int)) (bif ((idx a0.Txns a1).Status != 1) then some (([] : List Ask), ([] : List Spot)) else (iter (assizeref09zof.s1 a0 a1) ([], [], 0)))
noncomputable def assizeref09zAll.s1 (a0 : History) : (List Ask × List Spot × Int) → Option ((List Ask × List Spot × Int) ⊕ (List Ask × List Spot))
  | (l226, l229, x232) => bif decide (x232 < (a0.Txns.length : Int)) then (assizeref09zof a0 x232).bind fun y265 => must (((l226.length + y265.1.length) + (l226.length + y265.1.length) / 4 + 192) * 48 ≤ 281474976710656 ∧ l226.length + y265.1.length ≤ 9223372036854775807) (must (((l229.length + y265.2.length) + (l229.length + y265.2.length) / 4 + 192) * 16 ≤ 281474976710656 ∧ l229.length + y265.2.length ≤ 9223372036854775807) (some (.inl (l226 ++ y265.1, l229 ++ y265.2, w64 (x232 + 1))))) else (out (some (l226, l229)))
noncomputable def assizeref09zAll (a0 : History) : Option (List Ask × List Spot) :=
  iter (assizeref09zAll.s1 a0) ([], [], 0)
noncomputable def assizeref10zkind (a0 : History) (a1 : Ask) : Option Int :=
  must (0 ≤ a1.Txn ∧ a1.Txn < (a0.Txns.length : Int)) (must (0 ≤ a1.Place ∧ a1.Place < (((idx a0.Txns a1.Txn).Ops).length : Int)) ((assizeref05zOf ((idx ((idx a0.Txns a1.Txn).Ops) a1.Place).Kind)).bind fun y47 => some y47))
noncomputable def assizeref05zWrote.j2 (x410 : Int) (l502 : List Int) : Option ((List Int × Int) ⊕ (List Int)) :=
  some (.inl (l502, w64 (x410 + 1)))
noncomputable def assizeref05zWrote.j3 (a0 : History) (a1 : Int) (l407 : List Int) (x410 : Int) (b545 : Bool) : Option ((List Int × Int) ⊕ (List Int)) :=
  bif b545 then must (((l407.length + 1) + (l407.length + 1) / 4 + 192) * 8 ≤ 281474976710656 ∧ l407.length + 1 ≤ 9223372036854775807) (assizeref05zWrote.j2 x410 (l407 ++ ([(idx ((idx a0.Txns a1).Ops) x410).Arg] : List Int))) else (assizeref05zWrote.j2 x410 l407)
noncomputable def assizeref05zWrote.s1 (a0 : History) (a1 : Int) (a2 : Int) : (List Int × Int) → Option ((List Int × Int) ⊕ (List Int))
  | (l407, x410) => must (0 ≤ a1 ∧ a1 < (a0.Txns.length : Int)) (bif decide (x410 < (((idx a0.Txns a1).Ops).length : Int)) then must (0 ≤ x410 ∧ x410 < (((idx a0.Txns a1).Ops).length : Int)) (bif ((idx ((idx a0.Txns a1).Ops) x410).Key == a2) then (assizeref05zWrites ((idx ((idx a0.Txns a1).Ops) x410).Kind)).bind fun y554 => assizeref05zWrote.j3 a0 a1 l407 x410 y554 else (assizeref05zWrote.j3 a0 a1 l407 x410 false)) else (out (some l407)))
noncomputable def assizeref05zWrote (a0 : History) (a1 : Int) (a2 : Int) : Option (List Int) :=
  iter (assizeref05zWrote.s1 a0 a1 a2) ([], 0)
noncomputable def assizeref10zothers.j2 (x292 : Int) (l344 : List Int) : Option ((List Int × Int) ⊕ (List Int)) :=
  some (.inl (l344, w64 (x292 + 1)))
noncomputable def assizeref10zothers.j3 (l289 : List Int) (x292 : Int) (b364 : Bool) : Option ((List Int × Int) ⊕ (List Int)) :=
  bif b364 then must (((l289.length + 1) + (l289.length + 1) / 4 + 192) * 8 ≤ 281474976710656 ∧ l289.length + 1 ≤ 9223372036854775807) (assizeref10zothers.j2 x292 (l289 ++ ([x292] : List Int))) else (assizeref10zothers.j2 x292 l289)
noncomputable def assizeref10zothers.s1 (a0 : History) (a1 : Ask) : (List Int × Int) → Option ((List Int × Int) ⊕ (List Int))
  | (l289, x292) => bif decide (x292 < (a0.Txns.length : Int)) then bif (x292 != a1.Txn) then must (0 ≤ x292 ∧ x292 < (a0.Txns.length : Int)) (bif ((idx a0.Txns x292).Status != 2) then (assizeref05zWrote a0 x292 a1.Key).bind fun y384 => assizeref10zothers.j3 l289 x292 (decide ((y384.length : Int) > 0)) else (assizeref10zothers.j3 l289 x292 false)) else (assizeref10zothers.j3 l289 x292 false) else (out (some l289))
noncomputable def assizeref10zothers (a0 : History) (a1 : Ask) : Option (List Int) :=
  iter (assizeref10zothers.s1 a0 a1) ([], 0)
noncomputable def assizeref10zSum.s1 (y7 : List Int) : (Int × Int) → Option ((Int × Int) ⊕ Int)
  | (x69, x70) => bif decide (x70 < (y7.length : Int)) then must (0 ≤ x70 ∧ x70 < (y7.length : Int)) (some (.inl (w64 (x69 + (idx y7 x70)), w64 (x70 + 1)))) else (out (some x69))
noncomputable def assizeref10zSum (a0 : History) (a1 : Int) (a2 : Int) : Option Int :=
  (assizeref05zWrote a0 a1 a2).bind fun y7 => iter (assizeref10zSum.s1 y7) (0, 0)
noncomputable def assizeref10zcounts.j3 (x1196 : Int) (x1212 : Int) : Option ((Int × Int) ⊕ ((List Bool × Int) ⊕ (List Int))) :=
  some (.inl (x1212, w64 (x1196 + 1)))
noncomputable def assizeref10zcounts.j6 (x1333 : Int) (l1358 : List Bool) : Option ((List Bool × Int) ⊕ ((Int × Int) ⊕ ((List Bool × Int) ⊕ (List Int)))) :=
  some (.inl (l1358, w64 (x1333 + 1)))
noncomputable def assizeref10zcounts.j5 (x893 : Int) (l1330 : List Bool) (x1333 : Int) (b1344 : Bool) : Option ((List Bool × Int) ⊕ ((Int × Int) ⊕ ((List Bool × Int) ⊕ (List Int)))) :=
  bif b1344 then must (0 ≤ x1333 ∧ x1333 < (l1330.length : Int)) (bif idx l1330 x1333 then assizeref10zcounts.j6 x1333 (l1330.set x1333.toNat true) else (must (0 ≤ x1333 ∧ x1333 < (far : Int)) (assizeref10zcounts.j6 x1333 (l1330.set x1333.toNat (bAnd .i64 (sShr .i64 x893 x1333) 1 == 1))))) else (out (out (some (.inl (l1330, w64 (x893 + 1))))))
noncomputable def assizeref10zcounts.s4 (a1 : Ask) (y9 : List Int) (x893 : Int) (x1195 : Int) : (List Bool × Int) → Option ((List Bool × Int) ⊕ ((Int × Int) ⊕ ((List Bool × Int) ⊕ (List Int))))
  | (l1330, x1333) => bif decide (x1333 < (y9.length : Int)) then must (0 ≤ (0 : Int) ∧ (0 : Int) < (a1.Base.length : Int)) (assizeref10zcounts.j5 x893 l1330 x1333 (x1195 == idx a1.Base (0 : Int))) else (assizeref10zcounts.j5 x893 l1330 x1333 false)
noncomputable def assizeref10zcounts.s2 (a0 : History) (a1 : Ask) (y9 : List Int) (l890 : List Bool) (x893 : Int) : (Int × Int) → Option ((Int × Int) ⊕ ((List Bool × Int) ⊕ (List Int)))
  | (x1195, x1196) => bif decide (x1196 < (y9.length : Int)) then must (0 ≤ x1196 ∧ x1196 < (far : Int)) (bif (bAnd .i64 (sShr .i64 x893 x1196) 1 == 1) then must (0 ≤ x1196 ∧ x1196 < (y9.length : Int)) ((assizeref10zSum a0 (idx y9 x1196) a1.Key).bind fun y1219 => assizeref10zcounts.j3 x1196 (w64 (x1195 + y1219))) else (assizeref10zcounts.j3 x1196 x1195)) else (iter (assizeref10zcounts.s4 a1 y9 x893 x1195) (l890, 0))
noncomputable def assizeref10zcounts.j8 (x1553 : Int) (l1579 : List Int) : Option ((List Int × Int) ⊕ ((List Bool × Int) ⊕ (List Int))) :=
  some (.inl (l1579, w64 (x1553 + 1)))
noncomputable def assizeref10zcounts.s7 (y9 : List Int) (l890 : List Bool) : (List Int × Int) → Option ((List Int × Int) ⊕ ((List Bool × Int) ⊕ (List Int)))
  | (l1550, x1553) => bif decide (x1553 < (y9.length : Int)) then must (0 ≤ x1553 ∧ x1553 < (l890.length : Int)) (bif idx l890 x1553 then must (0 ≤ x1553 ∧ x1553 < (y9.length : Int)) (must (((l1550.length + 1) + (l1550.length + 1) / 4 + 192) * 8 ≤ 281474976710656 ∧ l1550.length + 1 ≤ 9223372036854775807) (assizeref10zcounts.j8 x1553 (l1550 ++ ([idx y9 x1553] : List Int)))) else (assizeref10zcounts.j8 x1553 l1550)) else (out (out (some l1550)))
noncomputable def assizeref10zcounts.s1 (a0 : History) (a1 : Ask) (y9 : List Int) : (List Bool × Int) → Option ((List Bool × Int) ⊕ (List Int))
  | (l890, x893) => must (0 ≤ (y9.length : Int) ∧ (y9.length : Int) < (far : Int)) (bif decide (x893 < sShl .i64 1 (y9.length : Int)) then iter (assizeref10zcounts.s2 a0 a1 y9 l890 x893) (0, 0) else (iter (assizeref10zcounts.s7 y9 l890) ([], 0)))
noncomputable def assizeref10zcounts (a0 : History) (a1 : Ask) : Option (List Int) :=
  (assizeref10zothers a0 a1).bind fun y9 => must (0 ≤ (y9.length : Int) ∧ (y9.length : Int) ≤ 9223372036854775807 ∧ (1 : Int) * (y9.length : Int) ≤ 281474976710656) (iter (assizeref10zcounts.s1 a0 a1 y9) (List.replicate (y9.length : Int).toNat (default : Bool), 1))
noncomputable def assizeref03zSameVals.s1 (a0 : List Int) (a1 : List Int) : Int → Option (Int ⊕ Bool)
  | x84 => bif decide (x84 < (a0.length : Int)) then must (0 ≤ x84 ∧ x84 < (a0.length : Int)) (must (0 ≤ x84 ∧ x84 < (a1.length : Int)) (bif (idx a0 x84 != idx a1 x84) then out (some false) else (some (.inl (w64 (x84 + 1)))))) else (out (some true))
noncomputable def assizeref03zSameVals (a0 : List Int) (a1 : List Int) : Option Bool :=
  bif ((a0.length : Int) != (a1.length : Int)) then some false else (iter (assizeref03zSameVals.s1 a0 a1) 0)
noncomputable def assizeref10zbegins (a0 : List Int) (a1 : List Int) : Option Bool :=
  bif decide ((a1.length : Int) > (a0.length : Int)) then some false else (must (0 ≤ (0 : Int) ∧ (0 : Int) ≤ (a1.length : Int) ∧ (a1.length : Int) ≤ (a0.length : Int)) ((assizeref03zSameVals (subl a0 (0 : Int) (a1.length : Int)) a1).bind fun y15 => some y15))
noncomputable def assizeref10zlist.j3 (x944 : Int) (x966 : Int) : Option ((Int × Int) ⊕ ((List Int × List Int) ⊕ (List Int × Bool))) :=
  some (.inl (x966, w64 (x944 + 1)))
noncomputable def assizeref10zlist.s4 (a0 : History) (a1 : Ask) (l733 : List Int) (l736 : List Int) (x943 : Int) : Int → Option (Int ⊕ ((Int × Int) ⊕ ((List Int × List Int) ⊕ (List Int × Bool))))
  | x1036 => bif decide (x1036 < (l733.length : Int)) then must (0 ≤ x1036 ∧ x1036 < (l733.length : Int)) (bif (idx l733 x1036 == x943) then out (out (out (some (([] : List Int), false)))) else (some (.inl (w64 (x1036 + 1))))) else (must (((l733.length + 1) + (l733.length + 1) / 4 + 192) * 8 ≤ 281474976710656 ∧ l733.length + 1 ≤ 9223372036854775807) ((assizeref05zWrote a0 x943 a1.Key).bind fun y1060 => must (0 ≤ (y1060.length : Int) ∧ (y1060.length : Int) ≤ (l736.length : Int) ∧ (l736.length : Int) ≤ (l736.length : Int)) (out (out (some (.inl (l733 ++ ([x943] : List Int), subl l736 (y1060.length : Int) (l736.length : Int))))))))
noncomputable def assizeref10zlist.s2 (a0 : History) (a1 : Ask) (y9 : List Int) (l733 : List Int) (l736 : List Int) : (Int × Int) → Option ((Int × Int) ⊕ ((List Int × List Int) ⊕ (List Int × Bool)))
  | (x943, x944) => bif decide (x944 < (y9.length : Int)) then must (0 ≤ x944 ∧ x944 < (y9.length : Int)) ((assizeref05zWrote a0 (idx y9 x944) a1.Key).bind fun y976 => (assizeref10zbegins l736 y976).bind fun y982 => bif y982 then assizeref10zlist.j3 x944 (idx y9 x944) else (assizeref10zlist.j3 x944 x943)) else (bif decide (x943 < 0) then out (out (some (([] : List Int), false))) else (iter (assizeref10zlist.s4 a0 a1 l733 l736 x943) 0))
noncomputable def assizeref10zlist.s1 (a0 : History) (a1 : Ask) (y9 : List Int) : (List Int × List Int) → Option ((List Int × List Int) ⊕ (List Int × Bool))
  | (l733, l736) => bif decide ((l736.length : Int) > 0) then iter (assizeref10zlist.s2 a0 a1 y9 l733 l736) ((-1), 0) else (out (some (l733, true)))
noncomputable def assizeref10zlist (a0 : History) (a1 : Ask) : Option (List Int × Bool) :=
  (assizeref10zothers a0 a1).bind fun y9 => iter (assizeref10zlist.s1 a0 a1 y9) ([], a1.Base)
noncomputable def assizeref10zholds.s1 (a0 : List Int) (a1 : Int) : Int → Option (Int ⊕ Bool)
  | x58 => bif decide (x58 < (a0.length : Int)) then must (0 ≤ x58 ∧ x58 < (a0.length : Int)) (bif (idx a0 x58 == a1) then out (some true) else (some (.inl (w64 (x58 + 1))))) else (out (some false))
noncomputable def assizeref10zholds (a0 : List Int) (a1 : Int) : Option Bool :=
  iter (assizeref10zholds.s1 a0 a1) 0
noncomputable def assizeref10zset.j2 (x526 : Int) (l629 : List Int) (x632 : Int) : Option ((List Int × Int × Int) ⊕ (List Int × Bool)) :=
  some (.inl (l629, x632, w64 (x526 + 1)))
noncomputable def assizeref10zset.j4 (x737 : Int) (x751 : Int) : Option ((Int × Int) ⊕ ((List Int × Int × Int) ⊕ (List Int × Bool))) :=
  some (.inl (x751, w64 (x737 + 1)))
noncomputable def assizeref10zset.j5 (y9 : List Int) (l522 : List Int) (x525 : Int) (x526 : Int) (x736 : Int) (b766 : Bool) : Option ((Int × Int) ⊕ ((List Int × Int × Int) ⊕ (List Int × Bool))) :=
  bif b766 then out (out (some (([] : List Int), false))) else (bif decide (x736 > 0) then must (((l522.length + 1) + (l522.length + 1) / 4 + 192) * 8 ≤ 281474976710656 ∧ l522.length + 1 ≤ 9223372036854775807) (out (assizeref10zset.j2 x526 (l522 ++ ([idx y9 x526] : List Int)) (w64 (x525 + x736)))) else (out (assizeref10zset.j2 x526 l522 x525)))
noncomputable def assizeref10zset.s3 (a1 : Ask) (y9 : List Int) (l522 : List Int) (x525 : Int) (x526 : Int) (y642 : List Int) : (Int × Int) → Option ((Int × Int) ⊕ ((List Int × Int × Int) ⊕ (List Int × Bool)))
  | (x736, x737) => bif decide (x737 < (y642.length : Int)) then must (0 ≤ x737 ∧ x737 < (y642.length : Int)) ((assizeref10zholds a1.Base (idx y642 x737)).bind fun y759 => bif y759 then assizeref10zset.j4 x737 (w64 (x736 + 1)) else (assizeref10zset.j4 x737 x736)) else (bif decide (x736 > 0) then assizeref10zset.j5 y9 l522 x525 x526 x736 (decide (x736 < (y642.length : Int))) else (assizeref10zset.j5 y9 l522 x525 x526 x736 false))
noncomputable def assizeref10zset.s1 (a0 : History) (a1 : Ask) (y9 : List Int) : (List Int × Int × Int) → Option ((List Int × Int × Int) ⊕ (List Int × Bool))
  | (l522, x525, x526) => bif decide (x526 < (y9.length : Int)) then must (0 ≤ x526 ∧ x526 < (y9.length : Int)) ((assizeref05zWrote a0 (idx y9 x526) a1.Key).bind fun y642 => iter (assizeref10zset.s3 a1 y9 l522 x525 x526 y642) (0, 0)) else (bif (x525 != (a1.Base.length : Int)) then out (some (([] : List Int), false)) else (out (some (l522, true))))
noncomputable def assizeref10zset (a0 : History) (a1 : Ask) : Option (List Int × Bool) :=
  (assizeref10zothers a0 a1).bind fun y9 => iter (assizeref10zset.s1 a0 a1 y9) ([], 0, 0)
noncomputable def assizeref10zOf.j1 (l44 : List Int) : Option (List Int) :=
  some l44
noncomputable def assizeref10zOf.j2 (l291 : List Int) : Option (List Int) :=
  some l291
noncomputable def assizeref10zOf.j4 (x456 : Int) (l496 : List Int) : Option ((List Int × Int) ⊕ (List Int)) :=
  some (.inl (l496, w64 (x456 + 1)))
noncomputable def assizeref10zOf.s3 (a0 : History) (a1 : Ask) (y300 : List Int) : (List Int × Int) → Option ((List Int × Int) ⊕ (List Int))
  | (l453, x456) => bif decide (x456 < (y300.length : Int)) then must (0 ≤ x456 ∧ x456 < (y300.length : Int)) ((assizeref05zWrote a0 (idx y300 x456) a1.Key).bind fun y508 => must (0 ≤ w64 ((y508.length : Int) - 1) ∧ w64 ((y508.length : Int) - 1) < (y508.length : Int)) (must (0 ≤ (0 : Int) ∧ (0 : Int) < (a1.Base.length : Int)) (bif (idx y508 (w64 ((y508.length : Int) - 1)) == idx a1.Base (0 : Int)) then must (((l453.length + 1) + (l453.length + 1) / 4 + 192) * 8 ≤ 281474976710656 ∧ l453.length + 1 ≤ 9223372036854775807) (assizeref10zOf.j4 x456 (l453 ++ ([idx y300 x456] : List Int))) else (assizeref10zOf.j4 x456 l453)))) else (out (assizeref10zOf.j2 l453))
noncomputable def assizeref10zOf (a0 : History) (a1 : Ask) : Option (List Int) :=
  (assizeref10zkind a0 a1).bind fun y7 => bif (y7 == 4) then (assizeref10zcounts a0 a1).bind fun y31 => must (0 ≤ (0 : Int) ∧ (0 : Int) < (a1.Base.length : Int)) (bif (idx a1.Base (0 : Int) == 0) then must (((1 + y31.length) + (1 + y31.length) / 4 + 192) * 8 ≤ 281474976710656 ∧ 1 + y31.length ≤ 9223372036854775807) (assizeref10zOf.j1 (([(-1)] : List Int) ++ y31)) else (assizeref10zOf.j1 y31)) else (bif ((a1.Base.length : Int) == 0) then some ([(-1)] : List Int) else (bif (y7 == 1) then (assizeref10zothers a0 a1).bind fun y300 => iter (assizeref10zOf.s3 a0 a1 y300) ([], 0) else (bif (y7 == 2) then (assizeref10zlist a0 a1).bind fun y533 => bif y533.2 then must (0 ≤ w64 ((y533.1.length : Int) - 1) ∧ w64 ((y533.1.length : Int) - 1) < (y533.1.length : Int)) (must (((0 + 1) + (0 + 1) / 4 + 192) * 8 ≤ 281474976710656 ∧ 0 + 1 ≤ 9223372036854775807) (assizeref10zOf.j2 (([] : List Int) ++ ([idx y533.1 (w64 ((y533.1.length : Int) - 1))] : List Int)))) else (assizeref10zOf.j2 []) else ((assizeref10zset a0 a1).bind fun y549 => bif y549.2 then assizeref10zOf.j2 y549.1 else (assizeref10zOf.j2 [])))))
noncomputable def assizeref10zEmpty.j2 (x386 : Int) (l450 : List Ask) : Option ((List Ask × Int) ⊕ (List Ask × Int)) :=
  some (.inl (l450, w64 (x386 + 1)))
noncomputable def assizeref10zEmpty.s1 (a0 : History) (y31 : List Ask × List Spot) : (List Ask × Int) → Option ((List Ask × Int) ⊕ (List Ask × Int))
  | (l383, x386) => bif decide (x386 < (y31.1.length : Int)) then must (0 ≤ x386 ∧ x386 < (y31.1.length : Int)) ((assizeref10zOf a0 (idx y31.1 x386)).bind fun y480 => bif ((y480.length : Int) == 0) then must (((l383.length + 1) + (l383.length + 1) / 4 + 192) * 48 ≤ 281474976710656 ∧ l383.length + 1 ≤ 9223372036854775807) (assizeref10zEmpty.j2 x386 (l383 ++ ([(idx y31.1 x386)] : List Ask))) else (assizeref10zEmpty.j2 x386 l383)) else (out (some (l383, 0)))
noncomputable def assizeref10zEmpty (a0 : History) : Option (List Ask × Int) :=
  (assizeref05zCheck a0).bind fun y8 => bif (y8 != 0) then some (([] : List Ask), 1) else ((assizeref09zAll a0).bind fun y31 => iter (assizeref10zEmpty.s1 a0 y31) ([], 0))
noncomputable def assizeref09zSameAsks.j2 (x580 : Int) (b788 : Bool) : Option (Int ⊕ Bool) :=
  bif b788 then out (some false) else (some (.inl (w64 (x580 + 1))))
noncomputable def assizeref09zSameAsks.s1 (a0 : List Ask) (a1 : List Ask) : Int → Option (Int ⊕ Bool)
  | x580 => bif decide (x580 < (a0.length : Int)) then must (0 ≤ x580 ∧ x580 < (a0.length : Int)) (must (0 ≤ x580 ∧ x580 < (a1.length : Int)) (bif ((idx a0 x580).Txn != (idx a1 x580).Txn) then assizeref09zSameAsks.j2 x580 true else (bif ((idx a0 x580).Place != (idx a1 x580).Place) then assizeref09zSameAsks.j2 x580 true else (bif ((idx a0 x580).Key != (idx a1 x580).Key) then assizeref09zSameAsks.j2 x580 true else ((assizeref03zSameVals ((idx a0 x580).Base) ((idx a1 x580).Base)).bind fun y856 => assizeref09zSameAsks.j2 x580 (!y856)))))) else (out (some true))
noncomputable def assizeref09zSameAsks (a0 : List Ask) (a1 : List Ask) : Option Bool :=
  bif ((a0.length : Int) != (a1.length : Int)) then some false else (iter (assizeref09zSameAsks.s1 a0 a1) 0)
noncomputable def assizelaw10zSourceEmpty.j3 (x217 : Int) (b283 : Bool) : Option (Int ⊕ Bool) :=
  bif b283 then out (some false) else (some (.inl (w64 (x217 + 1))))
noncomputable def assizelaw10zSourceEmpty.s2 (a0 : History) (y24 : List Ask × Int) : Int → Option (Int ⊕ Bool)
  | x217 => bif decide (x217 < (y24.1.length : Int)) then must (0 ≤ x217 ∧ x217 < (y24.1.length : Int)) ((source_Sources a0 (idx y24.1 x217)).bind fun y278 => bif (y278.2 != 0) then assizelaw10zSourceEmpty.j3 x217 true else (assizelaw10zSourceEmpty.j3 x217 ((y278.1.length : Int) != 0))) else (out (some true))
noncomputable def assizelaw10zSourceEmpty.j1 (a0 : History) (y24 : List Ask × Int) (b53 : Bool) : Option Bool :=
  bif b53 then some false else (iter (assizelaw10zSourceEmpty.s2 a0 y24) 0)
noncomputable def assizelaw10zSourceEmpty (a0 : History) : Option Bool :=
  (assizelaw10zalive).bind fun y8 => bif !y8 then some false else ((source_Empty a0).bind fun y24 => (assizeref10zEmpty a0).bind fun y41 => bif (y24.2 != y41.2) then assizelaw10zSourceEmpty.j1 a0 y24 true else ((assizeref09zSameAsks y24.1 y41.1).bind fun y288 => assizelaw10zSourceEmpty.j1 a0 y24 (!y288)))
end Go.Proofs.YtnlkggppokcmfaaT
