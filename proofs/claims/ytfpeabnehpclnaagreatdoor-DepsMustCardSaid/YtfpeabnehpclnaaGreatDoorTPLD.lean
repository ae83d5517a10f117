import Derived.Test.YtfpeabnehpclnaaGreatDoorTD
import Derived.Test.YtfpeabnehpclnaaGreatDoorXB
import Derived.Test.YtfpeabnehpclnaaGreatDoorY
import Derived.Test.YtfpeabnehpclnaaGreatDoorTF
namespace Go.Proofs.YtfpeabnehpclnaaGreatDoorT
open Go Go.Proofs Go.Proofs.YtfpeabnehpclnaaGreatDoorE
set_option linter.unusedVariables false
set_option linter.unusedSimpArgs false
structure aN where
 keys:List ByteArray
 types:List Int
 wrote:List (List Int)
 incs:List Int
 last_:List Int
 deriving Inhabited
noncomputable def uI (a0:List ByteArray) (a1:ByteArray):Int→Option (Int ⊕ Int)
 | a2=>bif decide (a2 < (a0.length:Int)) then must (0≤a2∧a2 < (a0.length:Int)) (bif sEq (idx a0 a2) a1 then out (some a2) else (some (.inl (w64 (a2 + 1))))) else (out (some (-1)))
noncomputable def gQ (a0:List ByteArray) (a1:ByteArray):Option Int :=
 iter (uI a0 a1) 0
noncomputable def kU (a2:Int) (a1:Bool):Option (Int ⊕ Bool) :=
 bif a1 then out (some false) else (some (.inl (w64 (a2 + 1))))
noncomputable def tT (a0:List ByteArray):Int→Option (Int ⊕ Bool)
 | a1=>bif decide (a1 < (a0.length:Int)) then must (0≤a1∧a1 < (a0.length:Int)) (bif decide (((idx a0 a1).size:Int) < 1) then kU a1 true else (bif decide (((idx a0 a1).size:Int) > 32) then kU a1 true else (must (0≤(0:Int)∧(0:Int)≤a1∧a1≤(a0.length:Int)) ((gQ (dW a0 (0:Int) a1) (idx a0 a1)).bind fun a2=>kU a1 (decide (a2 ≥ 0)))))) else (out (some (decide ((a0.length:Int)≤32))))
noncomputable def eU (a0:List ByteArray):Option Bool :=
 iter (tT a0) 0
noncomputable def jW (a2:Int) (a1:Bool):Option (Int ⊕ Bool) :=
 bif a1 then out (some false) else (some (.inl (w64 (a2 + 1))))
noncomputable def ni (a0:List Txn) (a1:Int):Int→Option (Int ⊕ Bool)
 | a2=>bif decide (a2 < a1) then must (0≤a2∧a2 < (a0.length:Int)) (bif ((idx a0 a2).Proc == (idx a0 a1).Proc) then bif ((idx a0 a2).To == (-1)) then jW a2 true else (jW a2 (decide ((idx a0 a2).To ≥ (idx a0 a1).From))) else (jW a2 false)) else (out (some true))
noncomputable def nk (a0:List Txn) (a1:Int) (a2:Bool):Option Bool :=
 bif a2 then some false else (iter (ni a0 a1) 0)
noncomputable def eD (a0:List Txn) (a1:Int) (a2:Bool):Option Bool :=
 bif a2 then some false else (bif decide (a1 > 0) then must (0≤w64 (a1 - 1)∧w64 (a1 - 1) < (a0.length:Int)) (nk a0 a1 (decide ((idx a0 a1).From≤(idx a0 (w64 (a1 - 1))).From))) else (nk a0 a1 false))
noncomputable def aT (a0:List Txn) (a1:Int):Option Bool :=
 must (0≤a1∧a1 < (a0.length:Int)) (bif decide ((idx a0 a1).Status < 1) then eD a0 a1 true else (bif decide ((idx a0 a1).Status > 3) then eD a0 a1 true else (bif decide ((idx a0 a1).From < 0) then eD a0 a1 true else (bif ((idx a0 a1).To != (-1)) then bif decide ((idx a0 a1).To≤(idx a0 a1).From) then eD a0 a1 true else (bif ((idx a0 a1).To == (-1)) then eD a0 a1 ((idx a0 a1).Status != 3) else (eD a0 a1 false)) else (bif ((idx a0 a1).To == (-1)) then eD a0 a1 ((idx a0 a1).Status != 3) else (eD a0 a1 false))))))
noncomputable def lH (a0:Call):Option Bool :=
 some (decide ((a0.Vals.length:Int)≤64))
noncomputable def pI (a0:Call):Int→Option (Int ⊕ Bool)
 | a1=>bif decide (a1 < (a0.Vals.length:Int)) then must (0≤a1∧a1 < (a0.Vals.length:Int)) (must (0≤w64 (a1 - 1)∧w64 (a1 - 1) < (a0.Vals.length:Int)) (bif decide (idx a0.Vals a1≤idx a0.Vals (w64 (a1 - 1))) then out (some false) else (some (.inl (w64 (a1 + 1)))))) else (out (lH a0))
noncomputable def jo (a0:Call) (a1:Bool):Option Bool :=
 bif a1 then some false else (bif (a0.Kind == 5) then some (decide ((a0.Vals.length:Int)≤1)) else (bif (a0.Kind == 8) then bif !a0.Got then some true else (some ((a0.Vals.length:Int) == 1)) else (bif (a0.Kind == 7) then iter (pI a0) 1 else (lH a0))))
noncomputable def jq (a0:Call) (a1:Int) (a2:Bool):Option Bool :=
 bif a2 then some false else (bif decide (a0.Kind≤4) then bif !a0.Got then bif ((a0.Vals.length:Int) == 0) then bif (a0.Kind != 4) then some true else (bif decide (a0.Arg ≥ (-1048576)) then some (decide (a0.Arg≤1048576)) else (some false)) else (some false) else (some false) else (bif (a0.Arg != 0) then jo a0 true else (bif (a0.Got != (a1 == 1)) then jo a0 true else (bif !a0.Got then jo a0 (decide ((a0.Vals.length:Int) > 0)) else (jo a0 false)))))
noncomputable def bG (a0:Call) (a1:Int):Option Bool :=
 bif decide (a0.Kind < 1) then jq a0 a1 true else (bif decide (a0.Kind > 8) then jq a0 a1 true else (bif decide ((a0.Key.size:Int) < 1) then jq a0 a1 true else (jq a0 a1 (decide ((a0.Key.size:Int) > 32)))))
noncomputable def oo (a0:Event):Int→Option (Int ⊕ Bool)
 | a1=>bif decide (a1 < (a0.Calls.length:Int)) then must (0≤a1∧a1 < (a0.Calls.length:Int)) ((bG (idx a0.Calls a1) a0.Kind).bind fun a2=>bif !a2 then out (some false) else (some (.inl (w64 (a1 + 1))))) else (out (some true))
noncomputable def kV (a0:Event) (b9:Bool):Option Bool :=
 bif b9 then some false else (iter (oo a0) 0)
noncomputable def dU (a0:Event):Option Bool :=
 bif decide (a0.Kind < 0) then kV a0 true else (bif decide (a0.Kind > 3) then kV a0 true else (kV a0 (decide ((a0.Calls.length:Int) > 16))))
noncomputable def tV (a0:List Event):Int→Option (Int ⊕ Int)
 | a1=>bif decide (a1 < (a0.length:Int)) then must (0≤a1∧a1 < (a0.length:Int)) ((dU (idx a0 a1)).bind fun a2=>bif !a2 then out (some 1) else (some (.inl (w64 (a1 + 1))))) else (out (some 0))
noncomputable def jf (a0:List Event):Option Int :=
 bif decide ((a0.length:Int) > 256) then some 1 else (iter (tV a0) 0)
noncomputable def rE (a0:Int):Option Int :=
 some (w64 (((w64 (a0 - 1)).tmod (4:Int)) + 1))
noncomputable def iC (a5:List ByteArray) (a3:List Int) (a4:List (List Int)) (a1:List Int) (a2:List Int):Option (Int×aN) :=
 some (0,(⟨a5,a3,a4,a1,a2⟩:aN))
noncomputable def iD (a2:Int) (a7:List ByteArray) (a5:List Int) (a3:List Int) (a4:List Int) (a1:Int) (a6:List (List Int)) (a8:Bool):Option (Int×aN) :=
 bif a8 then must (0≤a1∧a1 < (a4.length:Int)) (must (0≤a1∧a1 < (a3.length:Int)) (bif decide (idx (a3.set a1.toNat (w64 ((idx a3 a1) + 1))) a1 > 8) then some (51,(⟨a7,a5,a6,a3.set a1.toNat (w64 ((idx a3 a1) + 1)),a4.set a1.toNat a2⟩:aN)) else (iC a7 a5 a6 (a3.set a1.toNat (w64 ((idx a3 a1) + 1))) (a4.set a1.toNat a2)))) else (iC a7 a5 a6 a3 a4)
noncomputable def fZ (a1:Call) (a2:Int) (a8:List ByteArray) (a5:List Int) (a6:List Int) (a4:List Int) (a3:Int) (a7:List (List Int)):Option (Int×aN) :=
 bif (a1.Kind == 4) then must (0≤a3∧a3 < (a4.length:Int)) (iD a2 a8 a5 a6 a4 a3 a7 (idx a4 a3 != a2)) else (iD a2 a8 a5 a6 a4 a3 a7 false)
noncomputable def kr (a1:Call) (a2:Int) (a9:List ByteArray) (a6:List Int) (a4:List (List Int)) (a7:List Int) (a8:List Int) (a3:Int):Int→Option (Int ⊕ (Int×aN))
 | a5=>must (0≤a3∧a3 < (a4.length:Int)) (bif decide (a5 < ((idx a4 a3).length:Int)) then must (0≤a5∧a5 < ((idx a4 a3).length:Int)) (bif (idx (idx a4 a3) a5 == a1.Arg) then out (some (3,(⟨a9,a6,a4,a7,a8⟩:aN))) else (some (.inl (w64 (a5 + 1))))) else (must (((((idx a4 a3).length) + 1) + (((idx a4 a3).length) + 1) / 4 + 192) * 8≤281474976710656∧((idx a4 a3).length) + 1≤9223372036854775807) (out (fZ a1 a2 a9 a6 a7 a8 a3 (a4.set a3.toNat ((idx a4 a3)++([a1.Arg]:List Int)))))))
noncomputable def ku (a1:Call) (a2:Int) (a8:List ByteArray) (a4:List Int) (a6:List (List Int)) (a5:List Int) (a7:List Int) (a3:Int) (a9:Bool):Option (Int×aN) :=
 bif a9 then iter (kr a1 a2 a8 a4 a6 a5 a7 a3) 0 else (fZ a1 a2 a8 a4 a5 a7 a3 a6)
noncomputable def fC (a1:Call) (a2:Int) (a8:List ByteArray) (a4:List Int) (a6:List (List Int)) (a5:List Int) (a7:List Int) (a3:Int):Option (Int×aN) :=
 must (0≤a3∧a3 < (a4.length:Int)) ((rE a1.Kind).bind fun a9=>bif (idx a4 a3 != a9) then some (50,(⟨a8,a4,a6,a5,a7⟩:aN)) else (bif (a1.Kind == 2) then ku a1 a2 a8 a4 a6 a5 a7 a3 true else (ku a1 a2 a8 a4 a6 a5 a7 a3 (a1.Kind == 3))))
noncomputable def kw (a0:aN) (a1:Call) (a2:Int) (a3:List Int):Option (Int×aN) :=
 must (((a0.wrote.length + 1) + (a0.wrote.length + 1) / 4 + 192) * 24≤281474976710656∧a0.wrote.length + 1≤9223372036854775807) (must (((a0.incs.length + 1) + (a0.incs.length + 1) / 4 + 192) * 8≤281474976710656∧a0.incs.length + 1≤9223372036854775807) (must (((a0.last_.length + 1) + (a0.last_.length + 1) / 4 + 192) * 8≤281474976710656∧a0.last_.length + 1≤9223372036854775807) (fC a1 a2 (a0.keys++([a1.Key]:List ByteArray)) a3 (a0.wrote++([([]:List Int)]:List (List Int))) (a0.incs++([0]:List Int)) (a0.last_++([(-1)]:List Int)) (a0.keys.length:Int))))
noncomputable def ky (a0:aN) (a1:Call) (a2:Int):Option (Int×aN) :=
 (rE a1.Kind).bind fun a3=>must (((a0.types.length + 1) + (a0.types.length + 1) / 4 + 192) * 8≤281474976710656∧a0.types.length + 1≤9223372036854775807) (kw a0 a1 a2 (a0.types++([a3]:List Int)))
noncomputable def ak (a0:aN) (a1:Call) (a2:Int):Option (Int×aN) :=
 (gQ a0.keys a1.Key).bind fun y5=>bif decide (y5 < 0) then bif decide ((a0.keys.length:Int) ≥ 32) then some (2,a0) else (must (((a0.keys.length + 1) + (a0.keys.length + 1) / 4 + 192) * 16≤281474976710656∧a0.keys.length + 1≤9223372036854775807) (ky a0 a1 a2)) else (fC a1 a2 a0.keys a0.types a0.wrote a0.incs a0.last_ y5)
noncomputable def tX (a0:History) (a2:Int) (a3:List Call) (a1:Int):Option ((List Call×Int) ⊕ ((List ByteArray×List Int×(List (List Int))×List Int×List Int×Int) ⊕ Int)) :=
 some (.inl (a3++([(⟨(idx ((idx a0.Txns a2).Ops) a1).Kind,idx a0.Keys ((idx ((idx a0.Txns a2).Ops) a1).Key),(idx ((idx a0.Txns a2).Ops) a1).Arg,(idx ((idx a0.Txns a2).Ops) a1).Got,(idx ((idx a0.Txns a2).Ops) a1).Vals⟩:Call)]:List Call),w64 (a1 + 1)))
noncomputable def oq (a0:History) (a3:Int) (a1:List Call) (a2:Int) (a4:Bool):Option ((List Call×Int) ⊕ ((List ByteArray×List Int×(List (List Int))×List Int×List Int×Int) ⊕ Int)) :=
 bif a4 then out (out (some 1)) else (must (0≤(idx ((idx a0.Txns a3).Ops) a2).Key∧(idx ((idx a0.Txns a3).Ops) a2).Key < (a0.Keys.length:Int)) (must (((a1.length + 1) + (a1.length + 1) / 4 + 192) * 64≤281474976710656∧a1.length + 1≤9223372036854775807) (tX a0 a3 a1 a2)))
noncomputable def gT (a9:Int) (a3:List Call):(List ByteArray×List Int×(List (List Int))×List Int×List Int×Int)→Option ((List ByteArray×List Int×(List (List Int))×List Int×List Int×Int) ⊕ ((List Call×Int) ⊕ ((List ByteArray×List Int×(List (List Int))×List Int×List Int×Int) ⊕ Int)))
 | (a6,a7,a4,a8,a5,a2)=>bif decide (a2 < (a3.length:Int)) then must (0≤a2∧a2 < (a3.length:Int)) ((ak (⟨a6,a7,a4,a8,a5⟩:aN) (idx a3 a2) a9).bind fun a1=>bif (a1.1 != 0) then out (out (out (some 1))) else (some (.inl (a1.2.keys,a1.2.types,a1.2.wrote,a1.2.incs,a1.2.last_,w64 (a2 + 1))))) else (out (out (some (.inl (a6,a7,a4,a8,a5,w64 (a9 + 1))))))
noncomputable def gU (a0:History) (a4:List ByteArray) (a7:List Int) (a8:List (List Int)) (a5:List Int) (a9:List Int) (a1:Int):(List Call×Int)→Option ((List Call×Int) ⊕ ((List ByteArray×List Int×(List (List Int))×List Int×List Int×Int) ⊕ Int))
 | (a3,a2)=>bif decide (a2 < (((idx a0.Txns a1).Ops).length:Int)) then must (0≤a2∧a2 < (((idx a0.Txns a1).Ops).length:Int)) (bif decide ((idx ((idx a0.Txns a1).Ops) a2).Key < 0) then oq a0 a1 a3 a2 true else (oq a0 a1 a3 a2 (decide ((idx ((idx a0.Txns a1).Ops) a2).Key ≥ (a0.Keys.length:Int))))) else ((jf ([(⟨0,(idx a0.Txns a1).Status,a3⟩:Event)]:List Event)).bind fun a6=>bif (a6 != 0) then out (out (some 1)) else (iter (gT a1 a3) (a4,a7,a8,a5,a9,0)))
noncomputable def kW (a0:History) (a1:List ByteArray) (a3:List Int) (a5:List (List Int)) (a2:List Int) (a7:List Int) (a6:Int) (a4:Bool):Option ((List ByteArray×List Int×(List (List Int))×List Int×List Int×Int) ⊕ Int) :=
 bif a4 then out (some 1) else (iter (gU a0 a1 a3 a5 a2 a7 a6) ([],0))
noncomputable def kX (a0:History):(List ByteArray×List Int×(List (List Int))×List Int×List Int×Int)→Option ((List ByteArray×List Int×(List (List Int))×List Int×List Int×Int) ⊕ Int)
 | (a2,a4,a5,a3,a6,a1)=>bif decide (a1 < (a0.Txns.length:Int)) then must (0≤a1∧a1 < (a0.Txns.length:Int)) ((aT a0.Txns a1).bind fun a7=>bif !a7 then kW a0 a2 a4 a5 a3 a6 a1 true else (kW a0 a2 a4 a5 a3 a6 a1 (decide ((((idx a0.Txns a1).Ops).length:Int) > 16)))) else (out (some 0))
noncomputable def iY (a0:History) (a1:Bool):Option Int :=
 bif a1 then some 1 else (iter (kX a0) ([],[],[],[],[],0))
noncomputable def aD (a0:History):Option Int :=
 (eU a0.Keys).bind fun a1=>bif !a1 then iY a0 true else (iY a0 (decide ((a0.Txns.length:Int) > 32)))
noncomputable def vD (a0:Int):Option Bool :=
 some (decide (a0≤4))
noncomputable def oP (a0:History) (a1:Ask):Option Int :=
 must (0≤a1.Txn∧a1.Txn < (a0.Txns.length:Int)) (must (0≤a1.Place∧a1.Place < (((idx a0.Txns a1.Txn).Ops).length:Int)) ((rE ((idx ((idx a0.Txns a1.Txn).Ops) a1.Place).Kind)).bind fun a2=>some a2))
noncomputable def ou (a1:Int) (a2:List Int):Option ((List Int×Int) ⊕ (List Int)) :=
 some (.inl (a2,w64 (a1 + 1)))
noncomputable def ow (a0:History) (a1:Int) (a2:List Int) (a3:Int) (a4:Bool):Option ((List Int×Int) ⊕ (List Int)) :=
 bif a4 then must (((a2.length + 1) + (a2.length + 1) / 4 + 192) * 8≤281474976710656∧a2.length + 1≤9223372036854775807) (ou a3 (a2++([(idx ((idx a0.Txns a1).Ops) a3).Arg]:List Int))) else (ou a3 a2)
noncomputable def tY (a0:History) (a1:Int) (a2:Int):(List Int×Int)→Option ((List Int×Int) ⊕ (List Int))
 | (a4,a3)=>must (0≤a1∧a1 < (a0.Txns.length:Int)) (bif decide (a3 < (((idx a0.Txns a1).Ops).length:Int)) then must (0≤a3∧a3 < (((idx a0.Txns a1).Ops).length:Int)) (bif ((idx ((idx a0.Txns a1).Ops) a3).Key == a2) then (vD ((idx ((idx a0.Txns a1).Ops) a3).Kind)).bind fun a5=>ow a0 a1 a4 a3 a5 else (ow a0 a1 a4 a3 false)) else (out (some a4)))
noncomputable def aW (a0:History) (a1:Int) (a2:Int):Option (List Int) :=
 iter (tY a0 a1 a2) ([],0)
noncomputable def nu (a2:Int) (a1:List Int):Option ((List Int×Int) ⊕ (List Int)) :=
 some (.inl (a1,w64 (a2 + 1)))
noncomputable def jX (a1:List Int) (a2:Int) (a3:Bool):Option ((List Int×Int) ⊕ (List Int)) :=
 bif a3 then must (((a1.length + 1) + (a1.length + 1) / 4 + 192) * 8≤281474976710656∧a1.length + 1≤9223372036854775807) (nu a2 (a1++([a2]:List Int))) else (nu a2 a1)
noncomputable def sj (a0:History) (a1:Ask):(List Int×Int)→Option ((List Int×Int) ⊕ (List Int))
 | (a3,a2)=>bif decide (a2 < (a0.Txns.length:Int)) then bif (a2 != a1.Txn) then must (0≤a2∧a2 < (a0.Txns.length:Int)) (bif ((idx a0.Txns a2).Status != 2) then (aW a0 a2 a1.Key).bind fun a4=>jX a3 a2 (decide ((a4.length:Int) > 0)) else (jX a3 a2 false)) else (jX a3 a2 false) else (out (some a3))
noncomputable def aX (a0:History) (a1:Ask):Option (List Int) :=
 iter (sj a0 a1) ([],0)
noncomputable def vE (y7:List Int):(Int×Int)→Option ((Int×Int) ⊕ Int)
 | (a2,a1)=>bif decide (a1 < (y7.length:Int)) then must (0≤a1∧a1 < (y7.length:Int)) (some (.inl (w64 (a2 + (idx y7 a1)),w64 (a1 + 1)))) else (out (some a2))
noncomputable def kI (a0:History) (a1:Int) (a2:Int):Option Int :=
 (aW a0 a1 a2).bind fun y7=>iter (vE y7) (0,0)
noncomputable def ny (a1:Int) (a2:Int):Option ((Int×Int) ⊕ ((List Bool×Int) ⊕ (List Int))) :=
 some (.inl (a2,w64 (a1 + 1)))
noncomputable def nz (a1:Int) (a2:List Bool):Option ((List Bool×Int) ⊕ ((Int×Int) ⊕ ((List Bool×Int) ⊕ (List Int)))) :=
 some (.inl (a2,w64 (a1 + 1)))
noncomputable def nA (a3:Int) (a2:List Bool) (a1:Int) (a4:Bool):Option ((List Bool×Int) ⊕ ((Int×Int) ⊕ ((List Bool×Int) ⊕ (List Int)))) :=
 bif a4 then must (0≤a1∧a1 < (a2.length:Int)) (bif idx a2 a1 then nz a1 (a2.set a1.toNat true) else (must (0≤a1∧a1 < (far:Int)) (nz a1 (a2.set a1.toNat (cz .i64 (ed .i64 a3 a1) 1 == 1))))) else (out (out (some (.inl (a2,w64 (a3 + 1))))))
noncomputable def su (a1:Ask) (y9:List Int) (a3:Int) (a5:Int):(List Bool×Int)→Option ((List Bool×Int) ⊕ ((Int×Int) ⊕ ((List Bool×Int) ⊕ (List Int))))
 | (a4,a2)=>bif decide (a2 < (y9.length:Int)) then must (0≤(0:Int)∧(0:Int) < (a1.Base.length:Int)) (nA a3 a4 a2 (a5 == idx a1.Base (0:Int))) else (nA a3 a4 a2 false)
noncomputable def sw (a0:History) (a1:Ask) (y9:List Int) (a6:List Bool) (a4:Int):(Int×Int)→Option ((Int×Int) ⊕ ((List Bool×Int) ⊕ (List Int)))
 | (a3,a2)=>bif decide (a2 < (y9.length:Int)) then must (0≤a2∧a2 < (far:Int)) (bif (cz .i64 (ed .i64 a4 a2) 1 == 1) then must (0≤a2∧a2 < (y9.length:Int)) ((kI a0 (idx y9 a2) a1.Key).bind fun a5=>ny a2 (w64 (a3 + a5))) else (ny a2 a3)) else (iter (su a1 y9 a4 a3) (a6,0))
noncomputable def nC (a2:Int) (a1:List Int):Option ((List Int×Int) ⊕ ((List Bool×Int) ⊕ (List Int))) :=
 some (.inl (a1,w64 (a2 + 1)))
noncomputable def sD (y9:List Int) (a3:List Bool):(List Int×Int)→Option ((List Int×Int) ⊕ ((List Bool×Int) ⊕ (List Int)))
 | (a2,a1)=>bif decide (a1 < (y9.length:Int)) then must (0≤a1∧a1 < (a3.length:Int)) (bif idx a3 a1 then must (0≤a1∧a1 < (y9.length:Int)) (must (((a2.length + 1) + (a2.length + 1) / 4 + 192) * 8≤281474976710656∧a2.length + 1≤9223372036854775807) (nC a1 (a2++([idx y9 a1]:List Int)))) else (nC a1 a2)) else (out (out (some a2)))
noncomputable def sF (a0:History) (a1:Ask) (y9:List Int):(List Bool×Int)→Option ((List Bool×Int) ⊕ (List Int))
 | (a3,a2)=>must (0≤(y9.length:Int)∧(y9.length:Int) < (far:Int)) (bif decide (a2 < jH .i64 1 (y9.length:Int)) then iter (sw a0 a1 y9 a3 a2) (0,0) else (iter (sD y9 a3) ([],0)))
noncomputable def aR (a0:History) (a1:Ask):Option (List Int) :=
 (aX a0 a1).bind fun y9=>must (0≤(y9.length:Int)∧(y9.length:Int)≤9223372036854775807∧(1:Int) * (y9.length:Int)≤281474976710656) (iter (sF a0 a1 y9) (List.replicate (y9.length:Int).toNat (default:Bool),1))
noncomputable def lU (a0:List Int) (a1:List Int):Int→Option (Int ⊕ Bool)
 | a2=>bif decide (a2 < (a0.length:Int)) then must (0≤a2∧a2 < (a0.length:Int)) (must (0≤a2∧a2 < (a1.length:Int)) (bif (idx a0 a2 != idx a1 a2) then out (some false) else (some (.inl (w64 (a2 + 1)))))) else (out (some true))
noncomputable def dV (a0:List Int) (a1:List Int):Option Bool :=
 bif ((a0.length:Int) != (a1.length:Int)) then some false else (iter (lU a0 a1) 0)
noncomputable def qz (a0:List Int) (a1:List Int):Option Bool :=
 bif decide ((a1.length:Int) > (a0.length:Int)) then some false else (must (0≤(0:Int)∧(0:Int)≤(a1.length:Int)∧(a1.length:Int)≤(a0.length:Int)) ((dV (dW a0 (0:Int) (a1.length:Int)) a1).bind fun a2=>some a2))
noncomputable def pJ (a2:Int) (a1:Int):Option ((Int×Int) ⊕ ((List Int×List Int) ⊕ (List Int×Bool))) :=
 some (.inl (a1,w64 (a2 + 1)))
noncomputable def uJ (a0:History) (a1:Ask) (a2:List Int) (a3:List Int) (a6:Int):Int→Option (Int ⊕ ((Int×Int) ⊕ ((List Int×List Int) ⊕ (List Int×Bool))))
 | a4=>bif decide (a4 < (a2.length:Int)) then must (0≤a4∧a4 < (a2.length:Int)) (bif (idx a2 a4 == a6) then out (out (out (some (([]:List Int),false)))) else (some (.inl (w64 (a4 + 1))))) else (must (((a2.length + 1) + (a2.length + 1) / 4 + 192) * 8≤281474976710656∧a2.length + 1≤9223372036854775807) ((aW a0 a6 a1.Key).bind fun a5=>must (0≤(a5.length:Int)∧(a5.length:Int)≤(a3.length:Int)∧(a3.length:Int)≤(a3.length:Int)) (out (out (some (.inl (a2++([a6]:List Int),dW a3 (a5.length:Int) (a3.length:Int))))))))
noncomputable def uK (a0:History) (a1:Ask) (y9:List Int) (a6:List Int) (a4:List Int):(Int×Int)→Option ((Int×Int) ⊕ ((List Int×List Int) ⊕ (List Int×Bool)))
 | (a3,a2)=>bif decide (a2 < (y9.length:Int)) then must (0≤a2∧a2 < (y9.length:Int)) ((aW a0 (idx y9 a2) a1.Key).bind fun a7=>(qz a4 a7).bind fun a5=>bif a5 then pJ a2 (idx y9 a2) else (pJ a2 a3)) else (bif decide (a3 < 0) then out (out (some (([]:List Int),false))) else (iter (uJ a0 a1 a6 a4 a3) 0))
noncomputable def lI (a0:History) (a1:Ask) (y9:List Int):(List Int×List Int)→Option ((List Int×List Int) ⊕ (List Int×Bool))
 | (a2,a3)=>bif decide ((a3.length:Int) > 0) then iter (uK a0 a1 y9 a2 a3) ((-1),0) else (out (some (a2,true)))
noncomputable def cK (a0:History) (a1:Ask):Option (List Int×Bool) :=
 (aX a0 a1).bind fun y9=>iter (lI a0 a1 y9) ([],a1.Base)
noncomputable def tZ (a0:List Int) (a1:Int):Int→Option (Int ⊕ Bool)
 | a2=>bif decide (a2 < (a0.length:Int)) then must (0≤a2∧a2 < (a0.length:Int)) (bif (idx a0 a2 == a1) then out (some true) else (some (.inl (w64 (a2 + 1))))) else (out (some false))
noncomputable def jg (a0:List Int) (a1:Int):Option Bool :=
 iter (tZ a0 a1) 0
noncomputable def qA (a2:Int) (a3:List Int) (a1:Int):Option ((List Int×Int×Int) ⊕ (List Int×Bool)) :=
 some (.inl (a3,a1,w64 (a2 + 1)))
noncomputable def qB (a1:Int) (a2:Int):Option ((Int×Int) ⊕ ((List Int×Int×Int) ⊕ (List Int×Bool))) :=
 some (.inl (a2,w64 (a1 + 1)))
noncomputable def qC (y9:List Int) (a1:List Int) (a3:Int) (a2:Int) (a4:Int) (a5:Bool):Option ((Int×Int) ⊕ ((List Int×Int×Int) ⊕ (List Int×Bool))) :=
 bif a5 then out (out (some (([]:List Int),false))) else (bif decide (a4 > 0) then must (((a1.length + 1) + (a1.length + 1) / 4 + 192) * 8≤281474976710656∧a1.length + 1≤9223372036854775807) (out (qA a2 (a1++([idx y9 a2]:List Int)) (w64 (a3 + a4)))) else (out (qA a2 a1 a3)))
noncomputable def vF (a1:Ask) (y9:List Int) (a5:List Int) (a6:Int) (a7:Int) (a4:List Int):(Int×Int)→Option ((Int×Int) ⊕ ((List Int×Int×Int) ⊕ (List Int×Bool)))
 | (a3,a2)=>bif decide (a2 < (a4.length:Int)) then must (0≤a2∧a2 < (a4.length:Int)) ((jg a1.Base (idx a4 a2)).bind fun a8=>bif a8 then qB a2 (w64 (a3 + 1)) else (qB a2 a3)) else (bif decide (a3 > 0) then qC y9 a5 a6 a7 a3 (decide (a3 < (a4.length:Int))) else (qC y9 a5 a6 a7 a3 false))
noncomputable def vG (a0:History) (a1:Ask) (y9:List Int):(List Int×Int×Int)→Option ((List Int×Int×Int) ⊕ (List Int×Bool))
 | (a4,a3,a2)=>bif decide (a2 < (y9.length:Int)) then must (0≤a2∧a2 < (y9.length:Int)) ((aW a0 (idx y9 a2) a1.Key).bind fun a5=>iter (vF a1 y9 a4 a3 a2 a5) (0,0)) else (bif (a3 != (a1.Base.length:Int)) then out (some (([]:List Int),false)) else (out (some (a4,true))))
noncomputable def bT (a0:History) (a1:Ask):Option (List Int×Bool) :=
 (aX a0 a1).bind fun y9=>iter (vG a0 a1 y9) ([],0,0)
noncomputable def rF (a1:List Int):Option (List Int) :=
 some a1
noncomputable def jh (a1:List Int):Option (List Int) :=
 some a1
noncomputable def rG (a1:Int) (a2:List Int):Option ((List Int×Int) ⊕ (List Int)) :=
 some (.inl (a2,w64 (a1 + 1)))
noncomputable def rH (a0:History) (a1:Ask) (a5:List Int):(List Int×Int)→Option ((List Int×Int) ⊕ (List Int))
 | (a3,a2)=>bif decide (a2 < (a5.length:Int)) then must (0≤a2∧a2 < (a5.length:Int)) ((aW a0 (idx a5 a2) a1.Key).bind fun a4=>must (0≤w64 ((a4.length:Int) - 1)∧w64 ((a4.length:Int) - 1) < (a4.length:Int)) (must (0≤(0:Int)∧(0:Int) < (a1.Base.length:Int)) (bif (idx a4 (w64 ((a4.length:Int) - 1)) == idx a1.Base (0:Int)) then must (((a3.length + 1) + (a3.length + 1) / 4 + 192) * 8≤281474976710656∧a3.length + 1≤9223372036854775807) (rG a2 (a3++([idx a5 a2]:List Int))) else (rG a2 a3)))) else (out (jh a3))
noncomputable def cO (a0:History) (a1:Ask):Option (List Int) :=
 (oP a0 a1).bind fun y7=>bif (y7 == 4) then (aR a0 a1).bind fun a3=>must (0≤(0:Int)∧(0:Int) < (a1.Base.length:Int)) (bif (idx a1.Base (0:Int) == 0) then must (((1 + a3.length) + (1 + a3.length) / 4 + 192) * 8≤281474976710656∧1 + a3.length≤9223372036854775807) (rF (([(-1)]:List Int)++a3)) else (rF a3)) else (bif ((a1.Base.length:Int) == 0) then some ([(-1)]:List Int) else (bif (y7 == 1) then (aX a0 a1).bind fun a5=>iter (rH a0 a1 a5) ([],0) else (bif (y7 == 2) then (cK a0 a1).bind fun a2=>bif a2.2 then must (0≤w64 ((a2.1.length:Int) - 1)∧w64 ((a2.1.length:Int) - 1) < (a2.1.length:Int)) (must (((0 + 1) + (0 + 1) / 4 + 192) * 8≤281474976710656∧0 + 1≤9223372036854775807) (jh (([]:List Int)++([idx a2.1 (w64 ((a2.1.length:Int) - 1))]:List Int)))) else (jh []) else ((bT a0 a1).bind fun a4=>bif a4.2 then jh a4.1 else (jh [])))))
noncomputable def sO (a0:History) (a1:Ask):Option (List Int×Bool) :=
 (oP a0 a1).bind fun a3=>bif (a3 == 2) then (cK a0 a1).bind fun a2=>some (a2.1,a2.2) else (bif (a3 == 3) then (bT a0 a1).bind fun a4=>some (a4.1,a4.2) else (some (([]:List Int),false)))
end Go.Proofs.YtfpeabnehpclnaaGreatDoorT
namespace Go.Proofs.YtfpeabnehpclnaaGreatDoorT
open Go Go.Proofs Go.Proofs.YtfpeabnehpclnaaGreatDoorE
set_option linter.unusedVariables false
set_option linter.unusedSimpArgs false
def Upm {S Ω:Type} (n k:Nat) (J:Nat→S→Prop) (Q:Ω→Prop):S ⊕ Ω→Prop
 | .inl s'=>k < n∧J (k + 1) s'
 | .inr o=>Q o
theorem bN {S Ω:Type} {step:S→Option (S ⊕ Ω)} {Q:Ω→Prop} (n:Nat) (J:Nat→S→Prop) {s0:S} {k0:Nat} (a1:k0≤n) (h0:J k0 s0)
  (hs:∀ (k:Nat) (s:S),k≤n→J k s→Tri (step s) (Upm n k J Q)):Tri (iter step s0) Q:=by
 generalize hd:n - k0=d
 induction d using Nat.strongRecOn generalizing k0 s0 with
 | ind d ih =>
  obtain ⟨x,hx,hr⟩:=hs k0 s0 a1 h0
  rw [Aj,hx]
  cases x with
  | inl s'=>exact ih (n - (k0 + 1)) (by have:=hr.1; omega) (k0:=k0 + 1) (by have:=hr.1; omega) hr.2 rfl
  | inr o=>exact ⟨o,rfl,hr⟩
def Asc (s:List Int):Prop:=∀ k:Nat,k + 1 < s.length→idx s (k:Int) < idx s ((k + 1:Nat):Int)
instance (s:List Int):Decidable (Asc s):=by
 unfold Asc;exact decidable_of_iff (∀ k,k < s.length→k + 1 < s.length→idx s (k:Int) < idx s ((k + 1:Nat):Int)) ⟨fun h k hk=>h k (by omega) hk,fun h k _ hk=>h k hk⟩
theorem mE {s:List Int} {k:Nat} (h:k < s.length):idx s (k:Int)=s[k]:=bS rfl h
theorem zX {s:List Int}:Asc s↔s.Pairwise (· < ·):=by
 rw [List.pairwise_iff_getElem]
 constructor
 ·intro h i j hi hj hij
  induction j with
  | zero=>omega
  | succ j ih =>
   have h1:=h j hj
   rw [mE (by omega),mE hj] at h1
   rcases Nat.lt_or_ge i j with h2 | h2
   ·exact Int.lt_trans (ih (by omega) h2) h1
   ·have:i=j:=by omega
    subst this;exact h1
 ·intro h k hk
  rw [mE (by omega),mE hk]
  exact h k (k + 1) (by omega) hk (by omega)
def SOk (t:Int) (s:List Int):Bool:=(t == 1 && decide (s.length≤1)) || (t == 2 && decide (s.length≤64)) || (t == 3 && decide (Asc s) && decide (s.length≤64)) || (t == 4 && s.length == 1)
def chk (t:Int) (s:List Int):Int:=if 1≤t∧t≤4 then (if SOk t s then 0 else 80) else 1
theorem mP {k:Nat} (h:k < 2 ^ 62) (h1:1≤k):w64 ((k:Int) - 1)=((k - 1:Nat):Int):=by
 rw [oD (by omega) (by omega)]; omega
theorem Ex {s:List Int} (hs:s.length < 2 ^ 62):gI () s=some (decide (Asc s) && decide (s.length≤64)):=by
 unfold gI;refine eY.1 ?_;refine bN (k0:=1) (s.length + 1) (fun k x=>x=(k:Int)∧1≤k∧∀ j:Nat,j + 1 < k→j + 1 < s.length→idx s (j:Int) < idx s ((j + 1:Nat):Int)) (by omega) ⟨rfl,Nat.le_refl _,fun j h=>by omega⟩ ?_
 rintro k x hk ⟨rfl,a1,hJ⟩;unfold qw;refine gW (fun h => ?_) (fun h => ?_)
 ·have h:(k:Int) < s.length:=of_decide_eq_true h;have e:=mP (k:=k) (by omega) a1;refine ag (by rw [e]; omega) (ag (by omega) (gW (fun h2 => ?_) (fun h2 => ?_)))
  ·have h2:idx s (k:Int)≤idx s (w64 ((k:Int) - 1)):=of_decide_eq_true h2
   rw [e] at h2
   refine au (af ?_)
   show false=_
   have hn:¬ Asc s:=by
    intro hA;have:=hA (k - 1) (by omega)
    rw [show k - 1 + 1=k by omega] at this
    omega
   simp [hn]
  ·have h2:¬ idx s (k:Int)≤idx s (w64 ((k:Int) - 1)):=of_decide_eq_false h2
   rw [e] at h2
   refine ⟨_,rfl,by omega,aQ (by omega),by omega,fun j hj hl => ?_⟩
   rcases Nat.lt_or_ge (j + 1) k with h3 | h3
   ·exact hJ j h3 hl
   ·have:j=k - 1:=by omega
    subst this
    rw [show k - 1 + 1=k by omega]
    omega
 ·have h:¬ (k:Int) < s.length:=of_decide_eq_false h;refine au (af ?_)
  show decide ((s.length:Int)≤64)=_
  have hA:Asc s:=fun j hj=>hJ j (by omega) hj
  simp only [hA,decide_true,Bool.true_and]
  congr 1
  exact propext ⟨fun h=>by omega,fun h=>by omega⟩
theorem MC {t:Int} {s:List Int} (h:1≤t∧t≤4):chk t s=if SOk t s then 0 else 80:=if_pos h
theorem four {t:Int} (h:1≤t∧t≤4):t=1∨t=2∨t=3∨t=4:=by omega
theorem Tm {s:List Int} {n:Nat}:decide ((s.length:Int)≤(n:Int))=decide (s.length≤n):=by
 congr 1
 exact propext ⟨fun h=>by omega,fun h=>by omega⟩
theorem GM {t:Int} (h:¬ (1≤t∧t≤4)):kM t=some (-1):=by
 have e1:(t == 1)=false:=by rw [beq_eq_false_iff_ne]; omega
 have e2:(t == 2)=false:=by rw [beq_eq_false_iff_ne]; omega
 have e3:(t == 3)=false:=by rw [beq_eq_false_iff_ne]; omega
 have e4:(t == 4)=false:=by rw [beq_eq_false_iff_ne]; omega
 simp [kM,e1,e2,e3,e4]
theorem Cw (t:Int) {s:List Int} (hs:s.length < 2 ^ 62):kP t s=some (chk t s):=by
 by_cases ht:1≤t∧t≤4
 ·rw [MC ht]
  rcases four ht with rfl | rfl | rfl | rfl
  ·have:=Tm (s:=s) (n:=1)
   simp only [Int.cast_ofNat_Int] at this
   simp [kP,kM,kN,SOk]
   by_cases h:s.length≤1
   ·have h':(s.length:Int)≤1:=by omega
    simp [h,h']
   ·have h':¬ (s.length:Int)≤1:=by omega
    simp [h,h']
  ·simp [kP,kM,oI,SOk]
   by_cases h:s.length≤64
   ·have h':(s.length:Int)≤64:=by omega
    simp [h,h']
   ·have h':¬ (s.length:Int)≤64:=by omega
    simp [h,h']
  ·simp [kP,kM,Ex hs,SOk]
   by_cases h:Asc s <;> by_cases h':s.length≤64 <;> simp [h,h']
  ·simp [kP,kM,lv,SOk]
   by_cases h:s.length=1
   ·have h':(s.length:Int)=1:=by omega
    simp [h,h']
   ·have h':((s.length:Int) == 1)=false:=by rw [beq_eq_false_iff_ne]; omega
    simp [h,h']
 ·rw [chk,if_neg ht]
  simp [kP,GM ht]
def lb (s:List Int) (a:Int):Nat:=s.findIdx (fun x=>decide (a≤x))
def hit (s:List Int) (a:Int):Bool:=decide (lb s a < s.length) && (idx s (lb s a:Int) == a)
def ins (s:List Int) (a:Int):List Int:=s.take (lb s a)++((if hit s a then [] else [a])++s.drop (lb s a))
theorem NP (s:List Int) (a:Int):lb s a≤s.length:=List.findIdx_le_length
theorem SE {s:List Int} {a:Int} {k:Nat} (h:k < lb s a):idx s (k:Int) < a:=by
 have h1:k < s.length:=Nat.lt_of_lt_of_le h (NP s a)
 rw [mE h1]
 have:=List.not_of_lt_findIdx (p:=fun x=>decide (a≤x)) (xs:=s) h
 simpa using this
theorem SF {s:List Int} {a:Int} (h:lb s a < s.length):a≤idx s (lb s a:Int):=by
 rw [mE h]
 have:=List.findIdx_getElem (p:=fun x=>decide (a≤x)) (xs:=s) (w:=h);exact of_decide_eq_true this
theorem RJ {s:List Int} {a:Int} {i:Nat} (hi:i≤s.length) (h1:∀ k:Nat,k < i→idx s (k:Int) < a) (h2:i < s.length→a≤idx s (i:Int)):lb s a=i:=by
 rcases Nat.lt_trichotomy (lb s a) i with h | h | h
 ·have:=SF (s:=s) (a:=a) (by omega);have:=h1 _ h
  omega
 ·exact h
 ·have h3:=SE h;have:=h2 (by have:=NP s a; omega)
  omega
theorem QC {i j:Nat} (hi:i < 2 ^ 62) (hj:j < 2 ^ 62):w64 (ed .u64 (IntKind.wrap .u64 (w64 ((i:Int) + (j:Int)))) (1:Int))=(((i + j) / 2:Nat):Int):=by
 have e1:w64 ((i:Int) + (j:Int))=((i + j:Nat):Int):=by rw [oD (by omega) (by omega)]; omega
 rw [e1,wrap_u64 (by omega),Ju (n:=1) (i:=(1:Int)) rfl (by omega),oD (by omega) (by omega)]
 simp [Nat.shiftRight_eq_div_pow]
theorem ME (a b:Int):nV a b=some (decide (a < b)):=by simp [nV,mK]
theorem IK {s:List Int} (a:Int) (hA:Asc s) (hs:s.length < 2 ^ 62):bQ s a=some ((lb s a:Int),hit s a):=by
 unfold bQ;refine eY.1 ?_;have hP:=List.pairwise_iff_getElem.1 (zX.1 hA);have hmono:∀ p q:Nat,p≤q→q < s.length→idx s (p:Int)≤idx s (q:Int):=by
  intro p q hpq hq;rcases Nat.lt_or_ge p q with h | h
  ·rw [mE (by omega),mE hq]
   exact Int.le_of_lt (hP p q (by omega) hq h)
  ·have:p=q:=by omega
   subst this;exact Int.le_refl _
 refine xP (fun x:Int×Int=>∃ i j:Nat,x=((i:Int),(j:Int))∧i≤j∧j≤s.length∧(∀ k:Nat,k < i→idx s (k:Int) < a)∧(j < s.length→a≤idx s (j:Int))) (fun x=>x.2.toNat - x.1.toNat)
  ⟨0,s.length,rfl,by omega,by omega,fun k h=>by omega,fun h=>by omega⟩ ?_
 rintro _ ⟨i,j,rfl,hij,hj,h1,h2⟩;unfold jk;refine gW (fun h => ?_) (fun h => ?_)
 ·have h:(i:Int) < j:=of_decide_eq_true h;have e:=QC (i:=i) (j:=j) (by omega) (by omega)
  rw [e]
  refine ag (by decide) (ag (by omega) ?_)
  rw [ME]
  show Tri (bif decide _ then _ else _) _
  have hm:(i + j) / 2 < j:=by omega
  have a1:i≤(i + j) / 2:=by omega
  generalize (i + j) / 2=m at hm a1;refine gW (fun h3 => ?_) (fun h3 => ?_)
  ·have h3:idx s (m:Int) < a:=of_decide_eq_true h3;refine ⟨_,rfl,⟨m + 1,j,by rw [aQ (by omega)],by omega,hj,fun k hk => ?_,h2⟩,?_⟩
   ·exact Int.lt_of_le_of_lt (hmono k m (by omega) (by omega)) h3
   ·rw [aQ (by omega)]; simp only [Int.toNat_natCast]; omega
  ·have h3:¬ idx s (m:Int) < a:=of_decide_eq_false h3;refine ⟨_,rfl,⟨i,m,rfl,a1,by omega,h1,fun _=>by omega⟩,?_⟩
   simp only [Int.toNat_natCast]; omega
 ·have h:¬ (i:Int) < j:=of_decide_eq_false h;have hji:j=i:=by omega
  subst hji;have hl:lb s a=j:=RJ hj h1 h2;refine gW (fun h3 => ?_) (fun h3 => ?_)
  ·have h3:(j:Int) < s.length:=of_decide_eq_true h3;have hlt:j < s.length:=by omega
   refine ag (by omega) (gW (fun h4 => ?_) (fun h4 => ?_))
   ·refine au (af ?_)
    simp [Rnd,hl,hit,hlt,h4]
   ·simp only [jI,Option.bind_some,bne_self_eq_false,cond_false]
    refine au (af ?_)
    simp [Rnd,hl,hit,hlt,h4]
  ·have h3:¬ (j:Int) < s.length:=of_decide_eq_false h3;have hlt:¬ j < s.length:=by omega
   refine au (af ?_)
   simp [Rnd,hl,hit,hlt]
theorem QD {s:List Int} {a:Int} (hA:Asc s):hit s a=true↔a ∈ s:=by
 unfold hit
 simp only [Bool.and_eq_true,decide_eq_true_eq,beq_iff_eq]
 constructor
 ·rintro ⟨h1,h2⟩
  rw [mE h1] at h2
  exact h2 ▸ List.getElem_mem h1
 ·intro h;obtain ⟨k,hk,e⟩:=List.getElem_of_mem h;have hP:=List.pairwise_iff_getElem.1 (zX.1 hA);have:lb s a=k:=by
   refine RJ (by omega) (fun j hj => ?_) (fun _ => ?_)
   ·rw [mE (by omega),← e]; exact hP j k (by omega) hk hj
   ·rw [mE hk,e]; exact Int.le_refl _
  rw [this]
  exact ⟨hk,by rw [mE hk,e]⟩
def next (t:Int) (s:List Int) (a:Int):List Int:=if t=1 then [a] else if t=2 then s++[a] else if t=3 then ins s a else [w64 (idx s 0 + a)]
def app (t:Int) (s:List Int) (a:Int):List Int×Int :=
 if chk t s≠0 then ([],chk t s) else if (next t s a).length > 64 then ([],2) else (next t s a,0)
theorem RX {t:Int} {s:List Int} (h:chk t s=0):1≤t∧t≤4∧SOk t s=true:=by
 unfold chk at h
 split at h
 ·rename_i h1
  split at h
  ·exact ⟨h1.1,h1.2,by assumption⟩
  ·cases h
 ·cases h
theorem RY {t:Int} {s:List Int} (h:SOk t s=true):s.length≤64:=by
 simp only [SOk,Bool.or_eq_true,Bool.and_eq_true,decide_eq_true_eq,beq_iff_eq] at h
 omega
theorem RZ {s:List Int} (h:SOk 3 s=true):Asc s:=by
 simp [SOk] at h
 exact h.1
theorem ok_one {s:List Int} (h:SOk 4 s=true):s.length=1:=by
 simp [SOk] at h
 exact h
def start (t:Int):List Int×Int:=if 1≤t∧t≤4 then (if t=4 then [0] else [],0) else ([],1)
def step (t:Int) (x:List Int×Int) (a:Int):List Int×Int:=if x.2=0 then app t x.1 a else x
theorem MF {a b:List Int} (ha:a.length < 2 ^ 62):dV a b=some (decide (a=b)):=by
 unfold dV
 by_cases hl:a.length=b.length
 ·have:((a.length:Int) != (b.length:Int))=false:=by simp; omega
  rw [this,cond_false]
  refine eY.1 ?_;refine Ht a.length (fun k=>∀ j:Nat,j < k→idx a (j:Int)=idx b (j:Int)) (fun j h=>by omega) (fun k hk hJ => ?_);unfold lU;refine gW (fun h => ?_) (fun h => ?_)
  ·have h:(k:Int) < a.length:=of_decide_eq_true h;refine ag (by omega) (ag (by omega) (gW (fun h2 => ?_) (fun h2 => ?_)))
   ·have h2:idx a (k:Int)≠idx b (k:Int):=by simpa using h2
    refine au (af ?_)
    show false=_
    have:a≠b:=fun e=>h2 (by rw [e])
    simp [this]
   ·have h2:idx a (k:Int)=idx b (k:Int):=by simpa using h2
    refine ⟨_,rfl,aQ (by omega),by omega,fun j hj => ?_⟩
    rcases Nat.lt_or_ge j k with h3 | h3
    ·exact hJ j h3
    ·have:j=k:=by omega
     subst this;exact h2
  ·have h:¬ (k:Int) < a.length:=of_decide_eq_false h;refine au (af ?_)
   show true=_
   have:a=b:=Jr hl (fun j hj=>hJ j (by omega))
   simp [this]
 ·have:((a.length:Int) != (b.length:Int))=true:=by simp; omega
  rw [this,cond_true]
  have:a≠b:=fun e=>hl (by rw [e])
  simp [this]
end Go.Proofs.YtfpeabnehpclnaaGreatDoorT
namespace Go.Proofs.YtfpeabnehpclnaaGreatDoorT
open Go Go.Proofs Go.Proofs.YtfpeabnehpclnaaGreatDoorE
set_option linter.unusedVariables false
set_option linter.unusedSimpArgs false
theorem yn {a b:List Int} (ha:a.length < 2 ^ 62):dY a b=some (decide (a=b)):=by
 rw [← MF ha]
 rfl
def Fit (s args:List Int):Prop:=∀ k:Nat,k < args.length→idx args (k:Int) ∈ s∧idx args (k:Int) ∉ args.take k
instance (s args:List Int):Decidable (Fit s args):=by unfold Fit; infer_instance
def before (t:Int) (s args:List Int):List Int×Bool :=
 if chk t s≠0∨args=[] then ([],false)
 else if t=1 then ([],decide (s.length=1∧idx s 0=idx args ((args.length - 1:Nat):Int)))
 else if t=2 then (if args.length≤s.length∧s.drop (s.length - args.length)=args then (s.take (s.length - args.length),true) else ([],false))
 else if t=3 then (if Fit s args then (s.filter (fun x=>decide (x ∉ args)),true) else ([],false))
 else ([args.foldl (fun v a=>w64 (v - a)) (idx s 0)],true)
theorem GN {s args:List Int} (hs:args.length < 2 ^ 62) (v:Int):iter (iT args) (v,0)=some ([args.foldl (fun v a=>w64 (v - a)) v],true):=by
 refine eY.1 ?_;refine Ad args.length (fun k x=>x=(args.take k).foldl (fun v a=>w64 (v - a)) v) rfl (fun k x hk hJ => ?_);subst hJ;unfold iT;refine gW (fun h => ?_) (fun h => ?_)
 ·have h:(k:Int) < args.length:=of_decide_eq_true h;have hks:k < args.length:=by omega
  refine ag (by omega) ⟨_,rfl,aQ (by omega),hks,?_⟩
  show _=List.foldl _ _ _
  rw [List.take_add_one,List.getElem?_eq_getElem hks,List.foldl_append,mE hks]
  rfl
 ·have h:¬ (k:Int) < args.length:=of_decide_eq_false h;refine au (af ?_)
  show ([_],true)=_
  rw [List.take_of_length_le (by omega)]
theorem Br {s args:List Int} (hs:s.length < 2 ^ 43) (ha:args.length < 2 ^ 62):dZ () s args=some (if args.length≤s.length∧s.drop (s.length - args.length)=args then (s.take (s.length - args.length),true) else ([],false)):=by
 unfold dZ
 by_cases hm:args.length≤s.length
 ·have e1:w64 ((s.length:Int) - (args.length:Int))=((s.length - args.length:Nat):Int):=by rw [oD (by omega) (by omega)]; omega
  have hlt:decide (w64 ((s.length:Int) - (args.length:Int)) < 0)=false:=decide_eq_false (by rw [e1]; omega)
  rw [hlt,cond_false,iL _ (by rw [e1]; omega),e1]
  have hsl:dW s ((s.length - args.length:Nat):Int) (s.length:Int)=s.drop (s.length - args.length):=by simp [dW]
  have a1:dW s (0:Int) ((s.length - args.length:Nat):Int)=s.take (s.length - args.length):=by simp [dW]
  rw [hsl,yn (by simp; omega)]
  simp only [Option.bind_some]
  unfold iG
  rw [e1,a1,iL _ (by omega)]
  have hc:fP (s.take (s.length - args.length))=some (s.take (s.length - args.length)):=iL _ (by simp; omega)
  rw [hc]
  by_cases he:s.drop (s.length - args.length)=args
  ·simp [he,hm]
  ·simp [he]
 ·have hlt:decide (w64 ((s.length:Int) - (args.length:Int)) < 0)=true:=decide_eq_true (by rw [oD (by omega) (by omega)]; omega)
  rw [hlt,cond_true,iG,cond_true,if_neg (fun h=>hm h.1)]
theorem Ki {s:List Int} (p:Int→Bool) (h:Asc s):Asc (s.filter p):=zX.2 ((zX.1 h).filter p)
theorem MG {args:List Int} {k:Nat} (h:k < args.length):args.take (k + 1)=args.take k++[idx args (k:Int)]:=by
 rw [List.take_add_one,List.getElem?_eq_getElem h,mE h]; rfl
theorem IL {s args:List Int} {k:Nat} (h:k < args.length):s.filter (fun x=>decide (x ∉ args.take (k + 1)))=(s.filter (fun x=>decide (x ∉ args.take k))).filter (fun x=>decide (x≠idx args (k:Int))):=by
 rw [List.filter_filter]
 apply List.filter_congr
 intro x _
 rw [MG h]
 simp only [List.mem_append,List.mem_singleton,not_or]
 rw [Bool.eq_iff_iff]
 simp only [decide_eq_true_eq,Bool.and_eq_true]
 exact ⟨fun h=>⟨h.2,h.1⟩,fun h=>⟨h.2,h.1⟩⟩
theorem Kj {l:List Int} {a:Int} (hA:Asc l) (h:hit l a=true):l.take (lb l a)++l.drop (lb l a + 1)=l.filter (fun x=>decide (x≠a)):=by
 have hP:=List.pairwise_iff_getElem.1 (zX.1 hA)
 simp only [hit,Bool.and_eq_true,decide_eq_true_eq,beq_iff_eq] at h
 obtain ⟨h1,h2⟩:=h
 rw [mE h1] at h2
 generalize lb l a=i at h1 h2
 conv=>rhs; rw [← List.take_append_drop i l,List.drop_eq_getElem_cons h1,List.filter_append,List.filter_cons,h2]
 rw [if_neg (by simp)]
 congr 1
 ·symm
  rw [List.filter_eq_self]
  intro x hx;obtain ⟨j,hj,rfl⟩:=List.getElem_of_mem hx;have hj':j < i:=by simp at hj; omega
  have:=hP j i (by omega) h1 hj'
  rw [List.getElem_take,decide_eq_true_eq]
  omega
 ·symm
  rw [List.filter_eq_self]
  intro x hx;obtain ⟨j,hj,rfl⟩:=List.getElem_of_mem hx;have hj':i + 1 + j < l.length:=by simp at hj; omega
  have:=hP i (i + 1 + j) h1 hj' (by omega)
  rw [List.getElem_drop,decide_eq_true_eq]
  omega
theorem Cx {s args:List Int} (hA:Asc s) (hs:s.length < 2 ^ 43) (ha:args.length < 2 ^ 62):fA () s args=some (if Fit s args then (s.filter (fun x=>decide (x ∉ args)),true) else ([],false)):=by
 unfold fA;have hc:fP s=some s:=iL _ (by omega)
 rw [hc]
 refine eY.1 ?_
 show Tri (iter (kQ args) (s,0)) _
 refine Ad args.length (fun k l=>l=s.filter (fun x=>decide (x ∉ args.take k))∧∀ j:Nat,j < k→idx args (j:Int) ∈ s∧idx args (j:Int) ∉ args.take j) ⟨by simp; exact (List.filter_eq_self.2 (fun _ _=>rfl)).symm,fun j h=>by omega⟩ (fun k l hk hJ => ?_)
 obtain ⟨hl,hJ⟩:=hJ;have hAl:Asc l:=by rw [hl]; exact Ki _ hA
 have hll:l.length≤s.length:=by rw [hl]; exact List.length_filter_le _ _
 unfold kQ;refine gW (fun h => ?_) (fun h => ?_)
 ·have h:(k:Int) < args.length:=of_decide_eq_true h;have hks:k < args.length:=by omega
  refine ag (by omega) ?_
  rw [IK _ hAl (by omega)]
  have hm:=QD (s:=l) (a:=idx args (k:Int)) hAl
  show Tri (bif !hit l (idx args (k:Int)) then _ else _) _
  cases hh:hit l (idx args (k:Int))
  ·simp only [Bool.not_false,cond_true]
   refine au (af ?_)
   show ([],false)=_
   have hn:¬ Fit s args:=by
    intro hF;have h1:=hF k hks;have:idx args (k:Int) ∈ l:=by rw [hl,List.mem_filter]; exact ⟨h1.1,by simpa using h1.2⟩
    rw [hm.2 this] at hh
    cases hh
   rw [if_neg hn]
  ·simp only [Bool.not_true,cond_false]
   have hi:=NP l (idx args (k:Int));have hlt:lb l (idx args (k:Int)) < l.length:=by
    simp only [hit,Bool.and_eq_true,decide_eq_true_eq] at hh
    exact hh.1
   have hd:jl l (lb l (idx args (k:Int)):Int) (w64 ((lb l (idx args (k:Int)):Int) + 1))=some (l.filter (fun x=>decide (x≠idx args (k:Int)))):=by
    unfold jl
    rw [aQ (by omega),iL _ ⟨by omega,by omega,by omega⟩,Int.toNat_natCast,Int.toNat_natCast,Kj hAl hh]
   rw [hd]
   refine ⟨_,rfl,aQ (by omega),hks,?_,fun j hj => ?_⟩
   ·rw [IL hks,← hl]
   ·rcases Nat.lt_or_ge j k with h3 | h3
    ·exact hJ j h3
    ·have:j=k:=by omega
     subst this;have hmem:=hm.1 hh
     rw [hl,List.mem_filter] at hmem
     exact ⟨hmem.1,by simpa using hmem.2⟩
 ·have h:¬ (k:Int) < args.length:=of_decide_eq_false h;have hF:Fit s args:=fun j hj=>hJ j (by omega);refine au (af ?_)
  show (l,true)=_
  rw [if_pos hF,hl,List.take_of_length_le (by omega)]
theorem NQ {s args:List Int} (ha:args.length < 2 ^ 62) (h0:args≠[]):gZ () s args=some ([],decide (s.length=1∧idx s 0=idx args ((args.length - 1:Nat):Int))):=by
 unfold gZ;have hp:0 < args.length:=List.length_pos_iff.2 h0;have e1:w64 ((args.length:Int) - 1)=((args.length - 1:Nat):Int):=mP ha hp
 rw [e1]
 by_cases h1:s.length=1
 ·have h2:((s.length:Int) == 1)=true:=by rw [beq_iff_eq]; omega
  rw [h2,cond_true,iL _ (by omega),iL _ (by omega)]
  simp [h1]
  rw [Bool.eq_iff_iff]; simp
 ·have h2:((s.length:Int) == 1)=false:=by rw [beq_eq_false_iff_ne]; omega
  rw [h2,cond_false]
  simp [h1]
theorem Bt (t:Int) {s args:List Int} (hs:s.length < 2 ^ 62) (ha:args.length < 2 ^ 62):gJ t s args=some (before t s args):=by
 unfold gJ before
 rw [Cw t hs]
 by_cases hc:chk t s=0
 ·obtain ⟨h1,h2,h3⟩:=RX hc;have hl:=RY h3
  simp only [hc,Option.bind_some,bne_self_eq_false,cond_false,ne_eq,not_true,false_or]
  by_cases h0:args=[]
  ·subst h0
   simp [kE]
  ·have hp:((args.length:Int) == 0)=false:=by
    have:0 < args.length:=List.length_pos_iff.2 h0
    rw [beq_eq_false_iff_ne]; omega
   rw [hp,if_neg h0]
   unfold kE;rcases four ⟨h1,h2⟩ with rfl | rfl | rfl | rfl
   ·simp [kM,NQ ha h0]
   ·simp [kM,Br (s:=s) (by omega) ha]
   ·simp [kM,Cx (RZ h3) (by omega) ha]
   ·have:=ok_one h3
    simp [kM,eu]
    rw [iL _ (by omega),GN (s:=s) ha]
    simp
 ·have:(chk t s != 0)=true:=by simpa using hc
  simp [hc,this,kE]
theorem GQ (t:Int) (s args:List Int):(before t s args).1.length≤s.length + 1:=by
 unfold before
 split
 ·simp
 ·split
  ·simp
  ·split
   ·split <;> simp <;> omega
   ·split
    ·split
     ·exact Nat.le_trans (List.length_filter_le _ _) (by omega)
     ·simp
    ·simp
end Go.Proofs.YtfpeabnehpclnaaGreatDoorT
namespace Go.Proofs.YtfpeabnehpclnaaGreatDoorT
open Go Go.Proofs Go.Proofs.YtfpeabnehpclnaaGreatDoorE
set_option linter.unusedVariables false
set_option linter.unusedSimpArgs false
def uE (c:Call) (k:Int):Prop :=
 1≤c.Kind∧c.Kind≤8∧1≤c.Key.size∧c.Key.size≤32 ∧
  (c.Kind≤4→c.Got=false∧c.Vals.length=0∧(c.Kind=4 → -1048576≤c.Arg∧c.Arg≤1048576)) ∧
  (5≤c.Kind→c.Arg=0∧(c.Got=true↔k=1)∧(c.Got=false→c.Vals.length=0) ∧
   (c.Got=true→(c.Kind=5→c.Vals.length≤1)∧(c.Kind=8→c.Vals.length=1)∧(c.Kind=7→Asc c.Vals)∧c.Vals.length≤64))
theorem Gb {k:ByteArray}:k=(⟨#[]⟩:ByteArray)↔k.size=0:=by
 constructor
 ·rintro rfl; rfl
 ·intro h;obtain ⟨a⟩:=k;have:a = #[]:=Array.eq_empty_of_size_eq_zero h
  rw [this]
theorem NR {c:Call} (hs:c.Vals.length < 2 ^ 61):Tri (iter (tq c) 1) (fun r=>r=true↔(c.Kind=7→Asc c.Vals)):=by
 refine bN (k0:=1) (c.Vals.length + 1) (fun k x=>x=(k:Int)∧1≤k∧∀ j:Nat,j + 1 < k→j + 1 < c.Vals.length→idx c.Vals (j:Int) < idx c.Vals ((j + 1:Nat):Int)) (by omega) ⟨rfl,Nat.le_refl _,fun j h=>by omega⟩ ?_
 rintro k x hk ⟨rfl,a1,hJ⟩;unfold tq sZ
 dsimp only
 have e:=mP (k:=k) (by omega) a1;have e2:=aQ (k:=k) (by omega)
 rw [e,e2]
 repeat' (first | contradiction | with_reducible refine ai (fun hq => ?_) (fun hq => ?_) | with_reducible refine ag (by first | omega | grind [bW]) ?_ | with_reducible refine au ?_ | with_reducible refine cZ ?_ | with_reducible refine dH ?_ | with_reducible refine dF ?_ | with_reducible refine dI ?_ | with_reducible refine af ?_)
 ·show false=true↔_
  have hl:¬ Asc c.Vals:=by
   intro hA;have:=hA (k - 1) (by omega)
   rw [show k - 1 + 1=k by omega] at this
   omega
  grind
 ·refine ⟨by omega,rfl,by omega,fun j hj hl => ?_⟩
  rcases Nat.lt_or_ge (j + 1) k with h3 | h3
  ·exact hJ j h3 hl
  ·have:j=k - 1:=by omega
   subst this
   rw [show k - 1 + 1=k by omega]
   omega
 ·show true=true↔_
  have hl:Asc c.Vals:=fun j hj=>hJ j (by omega) hj
  grind
 ·show true=true↔_
  grind
theorem DD (c:Call) (k:Int) (hs:c.Vals.length < 2 ^ 61):Tri (dm c k) (fun r=>r=true↔uE c k):=by
 unfold dm mR tC tu xW uE
 simp only [cond_true,cond_false]
 have he:=Gb (k:=c.Key)
 repeat' (first | contradiction | with_reducible refine ai (fun hq => ?_) (fun hq => ?_) | with_reducible refine ag (by first | omega | grind [bW]) ?_ | with_reducible refine au ?_ | with_reducible refine cZ ?_ | with_reducible refine dH ?_ | with_reducible refine dF ?_ | with_reducible refine dI ?_ | with_reducible refine af ?_ | refine eX (NR hs) (fun r hr => ?_))
 all_goals grind
theorem QE {c:Call} (hs:c.Vals.length < 2 ^ 61) (hc:c.Kind=7):Tri (iter (pI c) 1) (fun r=>r=true↔(Asc c.Vals∧c.Vals.length≤64)):=by
 refine bN (k0:=1) (c.Vals.length + 1) (fun k x=>x=(k:Int)∧1≤k∧∀ j:Nat,j + 1 < k→j + 1 < c.Vals.length→idx c.Vals (j:Int) < idx c.Vals ((j + 1:Nat):Int)) (by omega) ⟨rfl,Nat.le_refl _,fun j h=>by omega⟩ ?_
 rintro k x hk ⟨rfl,a1,hJ⟩;unfold pI lH
 dsimp only
 have e:=mP (k:=k) (by omega) a1;have e2:=aQ (k:=k) (by omega)
 rw [e,e2]
 repeat' (first | contradiction | with_reducible refine ai (fun hq => ?_) (fun hq => ?_) | with_reducible refine ag (by first | omega | grind [bW]) ?_ | with_reducible refine au ?_ | with_reducible refine cZ ?_ | with_reducible refine dH ?_ | with_reducible refine dF ?_ | with_reducible refine dI ?_ | with_reducible refine af ?_)
 ·show false=true↔_
  have hl:¬ Asc c.Vals:=by
   intro hA;have:=hA (k - 1) (by omega)
   rw [show k - 1 + 1=k by omega] at this
   omega
  grind
 ·refine ⟨by omega,rfl,by omega,fun j hj hl => ?_⟩
  rcases Nat.lt_or_ge j (k - 1) with h3 | h3
  ·exact hJ j (by omega) hl
  ·have:j=k - 1:=by omega
   subst this
   rw [show k - 1 + 1=k by omega]
   omega
 ·show decide _=true↔_
  have hl:Asc c.Vals:=fun j hj=>hJ j (by omega) hj
  grind
theorem FM (c:Call) (k:Int) (hs:c.Vals.length < 2 ^ 61):Tri (bG c k) (fun r=>r=true↔uE c k):=by
 unfold bG jq jo lH uE
 simp only [cond_true,cond_false]
 have ha:c.Vals.length=0→Asc c.Vals:=fun h j hj=>by omega
 repeat' (first | contradiction | with_reducible refine ai (fun hq => ?_) (fun hq => ?_) | with_reducible refine ag (by first | omega | grind [bW]) ?_ | with_reducible refine au ?_ | with_reducible refine cZ ?_ | with_reducible refine dH ?_ | with_reducible refine dF ?_ | with_reducible refine dI ?_ | with_reducible refine af ?_ | refine eX (QE hs (by assumption)) (fun r hr => ?_))
 all_goals grind
def Small (l:List Call):Prop:=l.length < 2 ^ 61∧wF l (fun c=>c.Vals.length < 2 ^ 61)
theorem NS {l:List Call} {e:Event} (hs:Small l):Tri (dS l e) (fun r=>r=true ↔ ¬ wF l (fun c=>uE c e.Kind)):=by
 have h1:Tri (bR l e) (fun r=>0≤r ↔ ¬ wF l (fun c=>uE c e.Kind)):=by
  have hl:=hs.1;unfold bR;refine oW l.length (fun j=>uE (idx l (j:Int)) e.Kind) ?_;intro k hk hJ;unfold fV uN
  dsimp only
  repeat' (first | contradiction | with_reducible refine ai (fun hq => ?_) (fun hq => ?_) | with_reducible refine ag (by first | omega | grind [bW]) ?_ | with_reducible refine au ?_ | with_reducible refine cZ ?_ | with_reducible refine dH ?_ | with_reducible refine dF ?_ | with_reducible refine dI ?_ | with_reducible refine af ?_ | refine bU (DD _ _ (hs.2 k (by omega))) (fun r hr => ?_))
  all_goals grind [Nxt,wF,bW]
 unfold dS;refine bU h1 (fun r hr => ?_)
 repeat' (first | contradiction | with_reducible refine ai (fun hq => ?_) (fun hq => ?_) | with_reducible refine ag (by first | omega | grind [bW]) ?_ | with_reducible refine au ?_ | with_reducible refine cZ ?_ | with_reducible refine dH ?_ | with_reducible refine dF ?_ | with_reducible refine dI ?_ | with_reducible refine af ?_)
 grind
def Ba (e:Event):Prop:=0≤e.Kind∧e.Kind≤3∧e.Calls.length≤16∧wF e.Calls (fun c=>uE c e.Kind)
theorem DF {e:Event} (hs:Small e.Calls):Tri (gM [e]) (fun r=>(r=0↔Ba e)∧(r=0∨r=1)):=by
 unfold gM;refine ai (fun h => ?_) (fun h => ?_)
 ·simp at h
 ·refine oW 1 (fun j=>Ba e) ?_;intro k hk hJ;unfold wY pQ
  dsimp only
  have hi:k=0→idx [e] (k:Int)=e:=by rintro rfl; rfl
  simp only [cond_true,cond_false]
  have hc:=fun h:k=0=>NS (l:=e.Calls) (e:=e) hs
  by_cases h0:k=0
  ·rw [hi h0]
   repeat' (first | contradiction | with_reducible refine ai (fun hq => ?_) (fun hq => ?_) | with_reducible refine ag (by first | omega | grind [bW]) ?_ | with_reducible refine au ?_ | with_reducible refine cZ ?_ | with_reducible refine dH ?_ | with_reducible refine dF ?_ | with_reducible refine dI ?_ | with_reducible refine af ?_ | refine bU (hc h0) (fun r hr => ?_))
   all_goals grind [Nxt,Ba,bW]
  ·repeat' (first | contradiction | with_reducible refine ai (fun hq => ?_) (fun hq => ?_) | with_reducible refine ag (by first | omega | grind [bW]) ?_ | with_reducible refine au ?_ | with_reducible refine cZ ?_ | with_reducible refine dH ?_ | with_reducible refine dF ?_ | with_reducible refine dI ?_ | with_reducible refine af ?_ | refine bU (hc (by grind)) (fun r hr => ?_))
   all_goals grind [Nxt,Ba,bW]
theorem Ey {e:Event} (hs:Small e.Calls):Tri (dU e) (fun r=>r=true↔Ba e):=by
 unfold dU kV
 simp only [cond_true,cond_false]
 have hl:=hs.1;have h1:Tri (iter (oo e) 0) (fun r=>r=true↔wF e.Calls (fun c=>uE c e.Kind)):=by
  refine oW e.Calls.length (fun j=>uE (idx e.Calls (j:Int)) e.Kind) ?_;intro k hk hJ;unfold oo
  dsimp only
  repeat' (first | contradiction | with_reducible refine ai (fun hq => ?_) (fun hq => ?_) | with_reducible refine ag (by first | omega | grind [bW]) ?_ | with_reducible refine au ?_ | with_reducible refine cZ ?_ | with_reducible refine dH ?_ | with_reducible refine dF ?_ | with_reducible refine dI ?_ | with_reducible refine af ?_ | refine bU (FM _ _ (hs.2 k (by omega))) (fun r hr => ?_))
  all_goals grind [Nxt,wF,bW]
 repeat' (first | contradiction | with_reducible refine ai (fun hq => ?_) (fun hq => ?_) | with_reducible refine ag (by first | omega | grind [bW]) ?_ | with_reducible refine au ?_ | with_reducible refine cZ ?_ | with_reducible refine dH ?_ | with_reducible refine dF ?_ | with_reducible refine dI ?_ | with_reducible refine af ?_ | refine eX h1 (fun r hr => ?_))
 all_goals grind [Ba]
theorem DI {e:Event} (hs:Small e.Calls):Tri (jf [e]) (fun r=>(r=0↔Ba e)∧(r=0∨r=1)):=by
 unfold jf;refine ai (fun h => ?_) (fun h => ?_)
 ·simp at h
 ·refine oW 1 (fun j=>Ba e) ?_;intro k hk hJ;unfold tV
  dsimp only
  have hi:k=0→idx [e] (k:Int)=e:=by rintro rfl; rfl
  have hc:k=0→Tri (dU (idx [e] (k:Int))) (fun r=>r=true↔Ba e):=fun h0=>by rw [hi h0]; exact Ey hs
  repeat' (first | contradiction | with_reducible refine ai (fun hq => ?_) (fun hq => ?_) | with_reducible refine ag (by first | omega | grind [bW]) ?_ | with_reducible refine au ?_ | with_reducible refine cZ ?_ | with_reducible refine dH ?_ | with_reducible refine dF ?_ | with_reducible refine dI ?_ | with_reducible refine af ?_ | refine bU (hc (by grind)) (fun r hr => ?_))
  all_goals grind [Nxt,bW]
def xy (h:History) (o:Op):Call:=⟨o.Kind,idx h.Keys o.Key,o.Arg,o.Got,o.Vals⟩
def dO (h:History) (t:Txn):List Call:=t.Ops.map (xy h)
def Av (h:History) (t:Txn):Event:=⟨0,t.Status,dO h t⟩
def yo (h:History) (t:Txn):Prop:=wF t.Ops (fun o=>0≤o.Key∧o.Key < (h.Keys.length:Int))
def Ez (t:Txn):Prop:=t.Ops.length * 56≤140737488351232∧wF t.Ops (fun o=>o.Vals.length * 8≤140737488351232)
theorem Ez.small {h:History} {t:Txn} (hs:Ez t) (k:Nat):Small ((dO h t).take k):=by
 have h1:=hs.1;refine ⟨by simp [dO]; omega,fun j hj => ?_⟩
 have hj':j < k∧j < t.Ops.length:=by simp [dO] at hj; omega
 rw [vY hj'.1,dO,yD hj'.2]
 have:=hs.2 j hj'.2
 show (idx t.Ops (j:Int)).Vals.length < _
 omega
theorem Cy {h:History} {t:Txn} (hs:Ez t):Tri (fe h t) (fun r=>(r.2=true↔yo h t∧Ba (Av h t))∧(r.2=true→r.1=Av h t)):=by
 unfold fe;have hl:=hs.1;refine Ad t.Ops.length (fun k l=>l=(dO h t).take k∧∀ j:Nat,j < k→0≤(idx t.Ops (j:Int)).Key∧(idx t.Ops (j:Int)).Key < (h.Keys.length:Int)) ⟨rfl,by omega⟩ ?_
 rintro k l hk ⟨rfl,hJ⟩;have hlen:((dO h t).take k).length=k:=by simp [dO]; omega
 unfold ve qP uZ
 simp only [cond_true,cond_false,hlen]
 have hsm:=DF (e:=⟨0,t.Status,(dO h t).take k⟩) (hs.small k);have hfull:k=t.Ops.length→(dO h t).take k=dO h t:=fun e=>List.take_of_length_le (by simp [dO]; omega);have hnext:k < t.Ops.length→(dO h t).take (k + 1)=(dO h t).take k++[xy h (idx t.Ops (k:Int))]:=fun hk=>by
  rw [iQ (by simpa [dO] using hk),dO,yD hk]
 repeat' (first | contradiction | with_reducible refine ai (fun hq => ?_) (fun hq => ?_) | with_reducible refine ag (by first | omega | grind [bW]) ?_ | with_reducible refine au ?_ | with_reducible refine cZ ?_ | with_reducible refine dH ?_ | with_reducible refine dF ?_ | with_reducible refine dI ?_ | with_reducible refine af ?_ | refine bU hsm (fun r hr => ?_))
 all_goals grind [Up2,yo,wF,bW,xy,Av]
def Gc (l:List Txn) (i:Nat):Prop:=∀ j:Nat,j < i → ¬ ((idx l (j:Int)).Proc=(idx l (i:Int)).Proc∧((idx l (j:Int)).To = -1∨(idx l (j:Int)).To ≥ (idx l (i:Int)).From))
def zm (l:List Txn) (i:Nat):Prop :=
 1≤(idx l (i:Int)).Status∧(idx l (i:Int)).Status≤3∧0≤(idx l (i:Int)).From∧((idx l (i:Int)).To = -1→(idx l (i:Int)).Status=3) ∧
  ((idx l (i:Int)).To ≠ -1→(idx l (i:Int)).From < (idx l (i:Int)).To)∧(0 < i→(idx l ((i - 1:Nat):Int)).From < (idx l (i:Int)).From)∧Gc l i
theorem MH {l:List Txn} {i:Nat} (hi:i < l.length) (hl:l.length < 2 ^ 61):Tri (dP (dW l 0 (i:Int)) (idx l (i:Int))) (fun r=>r=true ↔ ¬ Gc l i):=by
 have h1:Tri (bK (dW l 0 (i:Int)) (idx l (i:Int))) (fun r=>0≤r ↔ ¬ Gc l i):=by
  rw [lm (by omega)]
  unfold bK;have ht:(l.take i).length=i:=by simp; omega
  refine oW i (fun j => ¬ ((idx l (j:Int)).Proc=(idx l (i:Int)).Proc∧((idx l (j:Int)).To = -1∨(idx l (j:Int)).To ≥ (idx l (i:Int)).From))) ?_;intro k hk hJ;unfold fO qQ
  dsimp only
  rw [ht]
  have hx:k < i→idx (l.take i) (k:Int)=idx l (k:Int):=fun h=>vY h
  repeat' (first | contradiction | with_reducible refine ai (fun hq => ?_) (fun hq => ?_) | with_reducible refine ag (by first | omega | grind [bW]) ?_ | with_reducible refine au ?_ | with_reducible refine cZ ?_ | with_reducible refine dH ?_ | with_reducible refine dF ?_ | with_reducible refine dI ?_ | with_reducible refine af ?_)
  all_goals grind [Nxt,Gc,bW]
 unfold dP;refine bU h1 (fun r hr => ?_)
 repeat' (first | contradiction | with_reducible refine ai (fun hq => ?_) (fun hq => ?_) | with_reducible refine ag (by first | omega | grind [bW]) ?_ | with_reducible refine au ?_ | with_reducible refine cZ ?_ | with_reducible refine dH ?_ | with_reducible refine dF ?_ | with_reducible refine dI ?_ | with_reducible refine af ?_)
 grind
theorem Bu {l:List Txn} {i:Nat} (hi:i < l.length) (hl:l.length < 2 ^ 61):Tri (di (dW l 0 (i:Int)) (idx l (i:Int))) (fun r=>r=true↔zm l i):=by
 have hf:=MH hi hl;have hlen:(dW l 0 (i:Int)).length=i:=by rw [lm (by omega)]; simp; omega
 have hx:0 < i→idx (dW l 0 (i:Int)) (w64 ((i:Int) - 1))=idx l ((i - 1:Nat):Int):=fun h=>by
  rw [mP (by omega) (by omega),lm (by omega),vY (by omega)]
 have hw:0 < i→w64 ((i:Int) - 1)=((i - 1:Nat):Int):=fun h=>mP (by omega) (by omega);unfold di qa pY pX mJ zm
 simp only [cond_true,cond_false,hlen]
 repeat' (first | contradiction | with_reducible refine ai (fun hq => ?_) (fun hq => ?_) | with_reducible refine ag (by first | omega | grind [bW]) ?_ | with_reducible refine au ?_ | with_reducible refine cZ ?_ | with_reducible refine dH ?_ | with_reducible refine dF ?_ | with_reducible refine dI ?_ | with_reducible refine af ?_ | refine bU hf (fun r hr => ?_))
 all_goals grind
theorem yI {l:List Txn} {i:Nat} (hi:i < l.length) (hl:l.length < 2 ^ 61):Tri (aT l (i:Int)) (fun r=>r=true↔zm l i):=by
 have h1:Tri (iter (ni l (i:Int)) 0) (fun r=>r=true↔Gc l i):=by
  refine oW i (fun j => ¬ ((idx l (j:Int)).Proc=(idx l (i:Int)).Proc∧((idx l (j:Int)).To = -1∨(idx l (j:Int)).To ≥ (idx l (i:Int)).From))) ?_;intro k hk hJ;unfold ni jW
  simp only [cond_true,cond_false]
  repeat' (first | contradiction | with_reducible refine ai (fun hq => ?_) (fun hq => ?_) | with_reducible refine ag (by first | omega | grind [bW]) ?_ | with_reducible refine au ?_ | with_reducible refine cZ ?_ | with_reducible refine dH ?_ | with_reducible refine dF ?_ | with_reducible refine dI ?_ | with_reducible refine af ?_)
  all_goals grind [Nxt,Gc,bW]
 have hw:0 < i→w64 ((i:Int) - 1)=((i - 1:Nat):Int):=fun h=>mP (by omega) (by omega);unfold aT eD nk zm
 simp only [cond_true,cond_false]
 repeat' (first | contradiction | with_reducible refine ai (fun hq => ?_) (fun hq => ?_) | with_reducible refine ag (by first | omega | grind [bW]) ?_ | with_reducible refine au ?_ | with_reducible refine cZ ?_ | with_reducible refine dH ?_ | with_reducible refine dF ?_ | with_reducible refine dI ?_ | with_reducible refine af ?_ | refine eX h1 (fun r hr => ?_))
 all_goals grind
def Lp (l:List ByteArray) (s:ByteArray) (r:Int):Prop :=
 (r = -1∧∀ j:Nat,j < l.length→idx l (j:Int)≠s)∨(∃ k:Nat,r=(k:Int)∧k < l.length∧idx l (k:Int)=s∧∀ j:Nat,j < k→idx l (j:Int)≠s)
theorem Cz {l:List ByteArray} {s:ByteArray} (hl:l.length < 2 ^ 61):Tri (gQ l s) (Lp l s):=by
 unfold gQ;refine oW l.length (fun j=>idx l (j:Int)≠s) ?_;intro k hk hJ;unfold uI
 dsimp only
 repeat' (first | contradiction | with_reducible refine ai (fun hq => ?_) (fun hq => ?_) | with_reducible refine ag (by first | omega | grind [bW]) ?_ | with_reducible refine au ?_ | with_reducible refine cZ ?_ | with_reducible refine dH ?_ | with_reducible refine dF ?_ | with_reducible refine dI ?_ | with_reducible refine af ?_)
 ·exact .inr ⟨k,rfl,by omega,by assumption,hJ⟩
 ·grind [Nxt,bW]
 ·exact .inl ⟨rfl,fun j hj=>hJ j (by omega)⟩
def Bb (l:List ByteArray) (i:Nat):Prop:=1≤(idx l (i:Int)).size∧(idx l (i:Int)).size≤32∧∀ j:Nat,j < i→idx l (j:Int)≠idx l (i:Int)
def rO (l:List ByteArray):Prop:=l.length≤32∧∀ i:Nat,i < l.length→Bb l i
theorem FN {l:List ByteArray} {s:ByteArray} (hl:l.length < 2 ^ 61):Tri (slices_Contains_string l s) (fun r=>r=true↔∃ j:Nat,j < l.length∧idx l (j:Int)=s):=by
 have h1:Tri (slices_Index_string l s) (fun r=>0≤r↔∃ j:Nat,j < l.length∧idx l (j:Int)=s):=by
  unfold slices_Index_string;refine oW l.length (fun j=>idx l (j:Int)≠s) ?_;intro k hk hJ;unfold mg
  dsimp only
  repeat' (first | contradiction | with_reducible refine ai (fun hq => ?_) (fun hq => ?_) | with_reducible refine ag (by first | omega | grind [bW]) ?_ | with_reducible refine au ?_ | with_reducible refine cZ ?_ | with_reducible refine dH ?_ | with_reducible refine dF ?_ | with_reducible refine dI ?_ | with_reducible refine af ?_)
  all_goals grind [Nxt,bW]
 unfold slices_Contains_string;refine bU h1 (fun r hr => ?_)
 repeat' (first | contradiction | with_reducible refine ai (fun hq => ?_) (fun hq => ?_) | with_reducible refine ag (by first | omega | grind [bW]) ?_ | with_reducible refine au ?_ | with_reducible refine cZ ?_ | with_reducible refine dH ?_ | with_reducible refine dF ?_ | with_reducible refine dI ?_ | with_reducible refine af ?_)
 grind
theorem EA {l:List ByteArray} (hl:l.length < 2 ^ 61):Tri (eU l) (fun r=>r=true↔rO l):=by
 unfold eU;refine oW l.length (Bb l) ?_;intro k hk hJ;unfold tT kU
 simp only [cond_true,cond_false]
 have hf:Tri (gQ (dW l 0 (k:Int)) (idx l (k:Int))) (fun r=>0≤r↔∃ j:Nat,j < k∧idx l (j:Int)=idx l (k:Int)):=by
  rw [lm (by omega)]
  refine eX (Cz (by simp; omega)) (fun r hr => ?_);have ht:(l.take k).length=k:=by simp; omega
  have hx:∀ j:Nat,j < k→idx (l.take k) (j:Int)=idx l (j:Int):=fun j h=>vY h;unfold Lp at hr
  rw [ht] at hr
  grind
 have hN:rO l→k < l.length→Bb l k:=fun h hk=>h.2 k hk
 repeat' (first | contradiction | with_reducible refine ai (fun hq => ?_) (fun hq => ?_) | with_reducible refine ag (by first | omega | grind [bW]) ?_ | with_reducible refine au ?_ | with_reducible refine cZ ?_ | with_reducible refine dH ?_ | with_reducible refine dF ?_ | with_reducible refine dI ?_ | with_reducible refine af ?_ | refine bU hf (fun r hr => ?_))
 all_goals (have hNk:Bb l k↔(1≤(idx l (k:Int)).size∧(idx l (k:Int)).size≤32∧∀ j:Nat,j < k→idx l (j:Int)≠idx l (k:Int)):=Iff.rfl)
 all_goals grind [Nxt,rO,bW]
end Go.Proofs.YtfpeabnehpclnaaGreatDoorT
namespace Go.Proofs.YtfpeabnehpclnaaGreatDoorT
open Go Go.Proofs Go.Proofs.YtfpeabnehpclnaaGreatDoorE
set_option linter.unusedVariables false
set_option linter.unusedSimpArgs false
def typ (k:Int):Int:=(k - 1) % 4 + 1
theorem zn {k:Int} (h1:1≤k) (h2:k≤8):oH k=some (typ k):=by
 have:k=1∨k=2∨k=3∨k=4∨k=5∨k=6∨k=7∨k=8:=by omega
 rcases this with h | h | h | h | h | h | h | h <;> subst h <;> decide
theorem Eb {k:Int} (h1:1≤k) (h2:k≤8):rE k=some (typ k):=by
 have:k=1∨k=2∨k=3∨k=4∨k=5∨k=6∨k=7∨k=8:=by omega
 rcases this with h | h | h | h | h | h | h | h <;> subst h <;> decide
structure Sim (g:bB) (b:aN) (n:Nat):Prop where
 keys:g.keys=b.keys
 types:g.types=b.types
 len:b.keys.length≤32
 tl:b.types.length=b.keys.length
 wl:b.wrote.length=b.keys.length
 il:b.incs.length=b.keys.length
 ll:b.last_.length=b.keys.length
 nd:∀ i j:Nat,i < b.keys.length→j < b.keys.length→idx b.keys (i:Int)=idx b.keys (j:Int)→i=j
 has:∀ s,kC g.at_ s=true↔∃ j:Nat,j < b.keys.length∧idx b.keys (j:Int)=s
 at_:∀ j:Nat,j < b.keys.length→mat g.at_ (idx b.keys (j:Int))=(j:Int)
 facts:∀ j:Nat,j < b.keys.length→∀ a,kC g.facts ⟨idx b.keys (j:Int),a⟩=true↔∃ m:Nat,m < (idx b.wrote (j:Int)).length∧idx (idx b.wrote (j:Int)) (m:Int)=a
 fout:∀ s a,kC g.facts ⟨s,a⟩=true→∃ j:Nat,j < b.keys.length∧idx b.keys (j:Int)=s
 wn:∀ j:Nat,j < b.keys.length→(idx b.wrote (j:Int)).length≤n
 incs:∀ j:Nat,j < b.keys.length→((mat g.incs (idx b.keys (j:Int))).length:Int)=idx b.incs (j:Int)
 i8:∀ j:Nat,j < b.keys.length→(mat g.incs (idx b.keys (j:Int))).length≤8
 iout:∀ s,(∀ j:Nat,j < b.keys.length→idx b.keys (j:Int)≠s)→mat g.incs s=[]
 last:∀ j:Nat,j < b.keys.length→((mat g.incs (idx b.keys (j:Int))).length=0→idx b.last_ (j:Int) = -1) ∧
  (0 < (mat g.incs (idx b.keys (j:Int))).length→idx b.last_ (j:Int)=idx (mat g.incs (idx b.keys (j:Int))) (((mat g.incs (idx b.keys (j:Int))).length - 1:Nat):Int))
theorem Sim.start:Sim ⟨[],[],[],[],[]⟩ ⟨[],[],[],[],[]⟩ 0:=by
 refine ⟨rfl,rfl,by simp,rfl,rfl,rfl,rfl,?_,?_,?_,?_,?_,?_,?_,?_,?_,?_⟩
 all_goals simp [Fb,Rl]
 rfl
theorem Sim.mono {g:bB} {b:aN} {n m:Nat} (h:Sim g b n) (hm:n≤m):Sim g b m :=
 { h with wn:=fun j hj=>Nat.le_trans (h.wn j hj) hm }
theorem Sim.new {g:bB} {b:aN} {n:Nat} (h:Sim g b n) {s:ByteArray} {t:Int} (hn:∀ j:Nat,j < b.keys.length→idx b.keys (j:Int)≠s) (a2:b.keys.length < 32) :
  Sim ⟨g.keys++[s],gG g.at_ s (g.keys.length:Int),g.types++[t],g.facts,g.incs⟩ ⟨b.keys++[s],b.types++[t],b.wrote++[[]],b.incs++[0],b.last_++[-1]⟩ n:=by
 have hk:=h.keys;have hl:(b.keys++[s]).length=b.keys.length + 1:=by simp
 have k1:∀ j:Nat,j < b.keys.length→idx (b.keys++[s]) (j:Int)=idx b.keys (j:Int):=fun j hj=>kZ hj;have k2:idx (b.keys++[s]) ((b.keys.length:Nat):Int)=s:=jZ rfl;have w1:∀ j:Nat,j < b.keys.length→idx (b.wrote++[[]]) (j:Int)=idx b.wrote (j:Int):=fun j hj=>kZ (by rw [h.wl]; exact hj);have w2:idx (b.wrote++[[]]) ((b.keys.length:Nat):Int)=[]:=jZ h.wl.symm;have i1:∀ j:Nat,j < b.keys.length→idx (b.incs++[0]) (j:Int)=idx b.incs (j:Int):=fun j hj=>kZ (by rw [h.il]; exact hj);have i2:idx (b.incs++[0]) ((b.keys.length:Nat):Int)=0:=jZ h.il.symm;have l1:∀ j:Nat,j < b.keys.length→idx (b.last_++[-1]) (j:Int)=idx b.last_ (j:Int):=fun j hj=>kZ (by rw [h.ll]; exact hj);have l2:idx (b.last_++[-1]) ((b.keys.length:Nat):Int) = -1:=jZ h.ll.symm;have a1:=h.iout s hn;have cut:∀ j:Nat,j < b.keys.length + 1→j < b.keys.length∨j=b.keys.length:=by omega
 refine ⟨by simp [hk],by simp [h.types],by simp; omega,by simp [h.tl],by simp [h.wl],by simp [h.il],by simp [h.ll],?_,?_,?_,?_,?_,?_,?_,?_,?_,?_⟩
 ·intro i j hi hj he
  dsimp only at hi hj he
  rw [hl] at hi hj
  have:=h.nd i j;rcases cut i hi with hi' | hi' <;> rcases cut j hj with hj' | hj' <;> grind
 ·intro x
  dsimp only
  rw [xQ,hl,h.has]
  constructor
  ·rintro (rfl | ⟨j,hj,he⟩)
   ·exact ⟨_,Nat.lt_succ_self _,k2⟩
   ·exact ⟨j,by omega,(k1 j hj).trans he⟩
  ·rintro ⟨j,hj,he⟩;rcases cut j hj with hj' | hj'
   ·exact .inr ⟨j,hj',(k1 j hj') ▸ he⟩
   ·subst hj'; exact .inl (k2.symm.trans he).symm
 ·intro j hj
  dsimp only at hj ⊢
  rw [hl] at hj
  rw [qp,hk]
  rcases cut j hj with hj' | hj'
  ·rw [k1 j hj',if_neg (hn j hj')]; exact h.at_ j hj'
  ·subst hj'; rw [k2,if_pos rfl]
 ·intro j hj a
  dsimp only at hj ⊢
  rw [hl] at hj
  rcases cut j hj with hj' | hj'
  ·rw [k1 j hj',w1 j hj']; exact h.facts j hj' a
  ·subst hj'
   rw [k2,w2]
   constructor
   ·intro hh;obtain ⟨i,hi,he⟩:=h.fout s a hh;exact absurd he (hn i hi)
   ·rintro ⟨m,hm,_⟩; simp at hm
 ·intro x a hh;obtain ⟨i,hi,he⟩:=h.fout x a hh;exact ⟨i,by simp; omega,(k1 i hi).trans he⟩
 ·intro j hj
  dsimp only at hj ⊢
  rw [hl] at hj
  rcases cut j hj with hj' | hj'
  ·rw [w1 j hj']; exact h.wn j hj'
  ·subst hj'; rw [w2]; simp
 ·intro j hj
  dsimp only at hj ⊢
  rw [hl] at hj
  rcases cut j hj with hj' | hj'
  ·rw [k1 j hj',i1 j hj']; exact h.incs j hj'
  ·subst hj'; rw [k2,i2,a1]; rfl
 ·intro j hj
  dsimp only at hj ⊢
  rw [hl] at hj
  rcases cut j hj with hj' | hj'
  ·rw [k1 j hj']; exact h.i8 j hj'
  ·subst hj'; rw [k2,a1]; simp
 ·intro x hx
  dsimp only at hx ⊢
  rw [hl] at hx
  exact h.iout x (fun j hj=>by rw [← k1 j hj]; exact hx j (by omega))
 ·intro j hj
  dsimp only at hj ⊢
  rw [hl] at hj
  rcases cut j hj with hj' | hj'
  ·rw [k1 j hj',l1 j hj']; exact h.last j hj'
  ·subst hj'; rw [k2,l2,a1]; simp
theorem Sim.write {g:bB} {b:aN} {n k:Nat} (h:Sim g b n) {s:ByteArray} {a:Int} (hk:k < b.keys.length) (hs:idx b.keys (k:Int)=s) :
  Sim ⟨g.keys,g.at_,g.types,gG g.facts ⟨s,a⟩ (),g.incs⟩ ⟨b.keys,b.types,b.wrote.set k (idx b.wrote (k:Int)++[a]),b.incs,b.last_⟩ (n + 1):=by
 have w1:∀ j:Nat,idx (b.wrote.set k (idx b.wrote (k:Int)++[a])) (j:Int)=if j=k then idx b.wrote (k:Int)++[a] else idx b.wrote (j:Int):=fun j=>uk (by rw [h.wl]; exact hk);refine ⟨h.keys,h.types,h.len,h.tl,by simp [h.wl],h.il,h.ll,h.nd,h.has,h.at_,?_,?_,?_,h.incs,h.i8,h.iout,h.last⟩
 ·intro j hj x
  dsimp only at hj ⊢
  rw [xQ,w1 j,h.facts j hj]
  by_cases e:j=k
  ·subst e
   rw [if_pos rfl,hs]
   constructor
   ·rintro (he | ⟨m,hm,he⟩)
    ·have:x=a:=by injection he
     subst this;exact ⟨_,by simp,jZ rfl⟩
    ·exact ⟨m,by simp; omega,(kZ hm).trans he⟩
   ·rintro ⟨m,hm,he⟩;rcases Nat.lt_or_ge m (idx b.wrote (j:Int)).length with h1 | h1
    ·exact .inr ⟨m,h1,(kZ h1).symm.trans he⟩
    ·simp at hm
     rw [jZ (by omega)] at he
     rw [he]; exact .inl rfl
  ·rw [if_neg e]
   constructor
   ·rintro (he | hh)
    ·injection he with h1 h2
     exact absurd (h.nd j k hj hk (h1.trans hs.symm)) e
    ·exact hh
   ·exact .inr
 ·intro x y hh
  dsimp only at hh ⊢
  rcases xQ.1 hh with he | hh
  ·injection he with h1 h2
   exact ⟨k,hk,hs.trans h1.symm⟩
  ·exact h.fout x y hh
 ·intro j hj
  dsimp only at hj ⊢
  rw [w1 j]
  have:=h.wn j hj
  split
  ·rename_i e; subst e; simp; omega
  ·omega
theorem Sim.inc {g:bB} {b:aN} {n k:Nat} (h:Sim g b n) {s:ByteArray} {a:Int} (hk:k < b.keys.length) (hs:idx b.keys (k:Int)=s) (h8:(mat g.incs s).length < 8) :
  Sim ⟨g.keys,g.at_,g.types,g.facts,gG g.incs s (mat g.incs s++[a])⟩ ⟨b.keys,b.types,b.wrote,b.incs.set k (idx b.incs (k:Int) + 1),b.last_.set k a⟩ n:=by
 have i1:∀ j:Nat,idx (b.incs.set k (idx b.incs (k:Int) + 1)) (j:Int)=if j=k then idx b.incs (k:Int) + 1 else idx b.incs (j:Int):=fun j=>uk (by rw [h.il]; exact hk);have l1:∀ j:Nat,idx (b.last_.set k a) (j:Int)=if j=k then a else idx b.last_ (j:Int):=fun j=>uk (by rw [h.ll]; exact hk);have hne:∀ j:Nat,j < b.keys.length→j≠k→idx b.keys (j:Int)≠s:=fun j hj e he=>e (h.nd j k hj hk (he.trans hs.symm));refine ⟨h.keys,h.types,h.len,h.tl,h.wl,by simp [h.il],by simp [h.ll],h.nd,h.has,h.at_,h.facts,h.fout,h.wn,?_,?_,?_,?_⟩
 ·intro j hj
  dsimp only at hj ⊢
  rw [qp,i1 j]
  by_cases e:j=k
  ·subst e
   rw [if_pos hs,if_pos rfl,← h.incs j hj,hs]; simp
  ·rw [if_neg (hne j hj e),if_neg e]; exact h.incs j hj
 ·intro j hj
  dsimp only at hj ⊢
  rw [qp]
  by_cases e:j=k
  ·subst e
   rw [if_pos hs]; simp; omega
  ·rw [if_neg (hne j hj e)]; exact h.i8 j hj
 ·intro x hx
  dsimp only at hx ⊢
  rw [qp,if_neg (fun e=>hx k hk (hs.trans e.symm))]
  exact h.iout x hx
 ·intro j hj
  dsimp only at hj ⊢
  rw [qp,l1 j]
  by_cases e:j=k
  ·subst e
   rw [if_pos hs,if_pos rfl]
   refine ⟨fun h0=>by simp at h0,fun _ => ?_⟩
   rw [jZ (by simp)]
  ·rw [if_neg (hne j hj e),if_neg e]; exact h.last j hj
theorem Kk {c:Call} {who:Int} {a5:List ByteArray} {a2:List Int} {a1:List (List Int)} {a3 a4:List Int} {k:Nat} {Q:Int×aN→Prop} (hk:k < a1.length) (hb:(idx a1 (k:Int)).length≤4096)
  (h1:(∃ m:Nat,m < (idx a1 (k:Int)).length∧idx (idx a1 (k:Int)) (m:Int)=c.Arg)→Q (3,⟨a5,a2,a1,a3,a4⟩))
  (h2:(¬ ∃ m:Nat,m < (idx a1 (k:Int)).length∧idx (idx a1 (k:Int)) (m:Int)=c.Arg)→Tri (fZ c who a5 a2 a3 a4 (k:Int) (a1.set k (idx a1 (k:Int)++[c.Arg]))) Q) :
  Tri (iter (kr c who a5 a2 a1 a3 a4 (k:Int)) 0) Q:=by
 refine oW (idx a1 (k:Int)).length (fun m=>idx (idx a1 (k:Int)) (m:Int)≠c.Arg) ?_;intro m hm hJ;unfold kr
 dsimp only
 rw [Int.toNat_natCast]
 repeat' (first | contradiction | with_reducible refine ai (fun hq => ?_) (fun hq => ?_) | with_reducible refine ag (by first | omega | grind [bW]) ?_ | with_reducible refine au ?_ | with_reducible refine cZ ?_ | with_reducible refine dH ?_ | with_reducible refine dF ?_ | with_reducible refine dI ?_ | with_reducible refine af ?_)
 ·exact h1 ⟨m,by omega,by assumption⟩
 ·grind [Nxt,bW]
 ·exact h2 (by grind)
def Both (r:Int×bB) (n:Nat) (r':Int×aN):Prop:=r.1=r'.1∧(r.1=0→Sim r.2 r'.2 n)
def Kl (b:aN) (c:Call) (who:Int) (k:Nat) (r:Int×aN):Prop :=
 (idx b.types (k:Int)≠typ c.Kind∧r=(50,b)) ∨
 (idx b.types (k:Int)=typ c.Kind∧(c.Kind=2∨c.Kind=3)∧(∃ m:Nat,m < (idx b.wrote (k:Int)).length∧idx (idx b.wrote (k:Int)) (m:Int)=c.Arg)∧r=(3,b)) ∨
 (idx b.types (k:Int)=typ c.Kind∧(c.Kind=2∨c.Kind=3)∧(¬ ∃ m:Nat,m < (idx b.wrote (k:Int)).length∧idx (idx b.wrote (k:Int)) (m:Int)=c.Arg) ∧
  r=(0,⟨b.keys,b.types,b.wrote.set k (idx b.wrote (k:Int)++[c.Arg]),b.incs,b.last_⟩)) ∨
 (idx b.types (k:Int)=typ c.Kind∧c.Kind=4∧idx b.last_ (k:Int)≠who∧idx b.incs (k:Int) + 1 > 8∧r.1=51) ∨
 (idx b.types (k:Int)=typ c.Kind∧c.Kind=4∧idx b.last_ (k:Int)≠who∧idx b.incs (k:Int) + 1≤8 ∧
  r=(0,⟨b.keys,b.types,b.wrote,b.incs.set k (idx b.incs (k:Int) + 1),b.last_.set k who⟩)) ∨
 (idx b.types (k:Int)=typ c.Kind∧c.Kind=4∧idx b.last_ (k:Int)=who∧r=(0,b)) ∨
 (idx b.types (k:Int)=typ c.Kind∧c.Kind≠2∧c.Kind≠3∧c.Kind≠4∧r=(0,b))
theorem GR {b:aN} {k:Nat} {c:Call} {who:Int} (hk:k < b.keys.length) (t1:b.types.length=b.keys.length) (t2:b.wrote.length=b.keys.length) (t3:b.incs.length=b.keys.length)
  (t4:b.last_.length=b.keys.length) (hwr:(idx b.wrote (k:Int)).length≤4096) (hin:0≤idx b.incs (k:Int)∧idx b.incs (k:Int)≤8)
  (h1:1≤c.Kind) (h8:c.Kind≤8):Tri (fC c who b.keys b.types b.wrote b.incs b.last_ (k:Int)) (Kl b c who k):=by
 have e1:w64 (idx b.incs (k:Int) + 1)=idx b.incs (k:Int) + 1:=bW (by omega) (by omega);have e2:idx (b.incs.set k (idx b.incs (k:Int) + 1)) (k:Int)=idx b.incs (k:Int) + 1:=by rw [uk (by omega),if_pos rfl]
 unfold fC ku fZ iD iC
 simp only [cond_true,cond_false,Eb h1 h8,Int.toNat_natCast,e1,e2]
 repeat' (first | contradiction | with_reducible refine ai (fun hq => ?_) (fun hq => ?_) | with_reducible refine ag (by first | omega | grind [bW]) ?_ | with_reducible refine au ?_ | with_reducible refine cZ ?_ | with_reducible refine dH ?_ | with_reducible refine dF ?_ | with_reducible refine dI ?_ | with_reducible refine af ?_ | refine Kk (by omega) hwr (fun h => ?_) (fun h => ?_))
 all_goals try unfold fZ iD iC
 all_goals try simp only [cond_true,cond_false,Int.toNat_natCast,e1,e2]
 repeat' (first | contradiction | with_reducible refine ai (fun hq => ?_) (fun hq => ?_) | with_reducible refine ag (by first | omega | grind [bW]) ?_ | with_reducible refine au ?_ | with_reducible refine cZ ?_ | with_reducible refine dH ?_ | with_reducible refine dF ?_ | with_reducible refine dI ?_ | with_reducible refine af ?_)
 all_goals grind [Kl]
theorem enter_at {g:bB} {b:aN} {n k:Nat} {a0:bB} {c:Call} {who:Int} (h:Sim g b n) (hf:a0.facts=g.facts) (hi:a0.incs=g.incs) (hk:k < b.keys.length) (hs:idx b.keys (k:Int)=c.Key)
  (h1:1≤c.Kind) (h8:c.Kind≤8) (hw:0≤who) (hn:n≤2048) :
  Tri (iF a0 c who g.keys g.at_ g.types (k:Int)) (fun r=>Tri (fC c who b.keys b.types b.wrote b.incs b.last_ (k:Int)) (Both r (n + 1))):=by
 obtain ⟨gk,ga,gt,gf,gi⟩:=g
 dsimp only at hf hi
 have htl:=h.types;have hkk:=h.keys
 dsimp only at htl hkk ⊢
 subst htl hkk;have t1:=h.tl;have t2:=h.wl;have t3:=h.il;have t4:=h.ll;have hfa:=h.facts k hk c.Arg;have hin:=h.incs k hk;have a1:=h.i8 k hk;have hla:=h.last k hk;have hwr:=h.wn k hk
 rw [hs] at hfa hin a1 hla
 dsimp only at hfa hin a1 hla
 obtain ⟨r',hr',spec⟩:=GR (who:=who) hk t1 t2 t3 t4 (by omega) (by omega) h1 h8;have s0:=h.mono (Nat.le_succ n);have s1:=h.write (a:=c.Arg) hk hs;have s2:(mat gi c.Key).length < 8→_:=fun hl=>(h.inc (a:=who) hk hs hl).mono (Nat.le_succ n)
 dsimp only at s1 s2
 have e3:0 < (mat gi c.Key).length→w64 (((mat gi c.Key).length:Int) - 1)=(((mat gi c.Key).length - 1:Nat):Int):=fun h=>mP (by omega) (by omega);have m1:mat (gG gi c.Key (mat gi c.Key++[who])) c.Key=mat gi c.Key++[who]:=by rw [qp,if_pos rfl]
 unfold iF jR mW jQ jP iE
 simp only [cond_true,cond_false,zn h1 h8,hf,hi,m1]
 repeat' (first | contradiction | with_reducible refine ai (fun hq => ?_) (fun hq => ?_) | with_reducible refine ag (by first | omega | grind [bW]) ?_ | with_reducible refine au ?_ | with_reducible refine cZ ?_ | with_reducible refine dH ?_ | with_reducible refine dF ?_ | with_reducible refine dI ?_ | with_reducible refine af ?_)
 all_goals refine ⟨r',hr',?_⟩
 all_goals unfold Kl at spec
 all_goals simp only [Both]
 all_goals grind
theorem Km {g:bB} {b:aN} {n:Nat} {c:Call} {who:Int} (h:Sim g b n) (h1:1≤c.Kind) (h8:c.Kind≤8) (hw:0≤who) (hn:n≤2048) :
  Tri (aG g c who) (fun r=>Tri (ak b c who) (Both r (n + 1))):=by
 have hl:=h.len;have t1:=h.tl;have t2:=h.wl;have t3:=h.il;have t4:=h.ll;have hk:=h.keys;have ht:=h.types;obtain ⟨r0,a3,hf⟩:=Cz (l:=b.keys) (s:=c.Key) (by omega);rcases hf with ⟨rfl,hno⟩ | ⟨k,rfl,a1,a2,_⟩
 ·have hm:¬ kC g.at_ c.Key=true:=fun hh=>by
   obtain ⟨j,hj,he⟩:=(h.has c.Key).1 hh;exact hno j hj he
  unfold aG ak mX
  simp only [a3,zn h1 h8,hk,ht]
  refine ai (fun _ => ?_) (fun hh=>absurd hm hh);refine ai (fun a4 => ?_) (fun a4 => ?_)
  ·refine af (cZ ?_)
   repeat' (first | contradiction | with_reducible refine ai (fun hq => ?_) (fun hq => ?_) | with_reducible refine ag (by first | omega | grind [bW]) ?_ | with_reducible refine au ?_ | with_reducible refine cZ ?_ | with_reducible refine dH ?_ | with_reducible refine dF ?_ | with_reducible refine dI ?_ | with_reducible refine af ?_)
   ·exact ⟨rfl,fun h=>by cases h⟩
   ·omega
  ·have hS:=h.new (s:=c.Key) (t:=typ c.Kind) hno (by omega)
   rw [hk,ht] at hS
   have he:=enter_at (a0:=g) (who:=who) hS rfl rfl (k:=b.keys.length) (by simp) (jZ rfl) h1 h8 hw hn
   dsimp only at he
   refine ag (by omega) (cZ (ag (by omega) ?_));refine eX he (fun r hr => ?_);unfold ky kw
   simp only [Eb h1 h8]
   repeat' (first | contradiction | with_reducible refine ai (fun hq => ?_) (fun hq => ?_) | with_reducible refine ag (by first | omega | grind [bW]) ?_ | with_reducible refine au ?_ | with_reducible refine cZ ?_ | with_reducible refine dH ?_ | with_reducible refine dF ?_ | with_reducible refine dI ?_ | with_reducible refine af ?_ | exact hr)
   omega
 ·have hm:kC g.at_ c.Key=true:=(h.has c.Key).2 ⟨k,a1,a2⟩;have hat:mat g.at_ c.Key=(k:Int):=by rw [← a2]; exact h.at_ k a1
  have he:=enter_at (a0:=g) (who:=who) h rfl rfl a1 a2 h1 h8 hw hn;unfold aG ak
  simp only [a3,hat]
  refine ai (fun hh=>absurd hm hh) (fun _ => ?_);refine eX he (fun r hr=>cZ ?_)
  repeat' (first | contradiction | with_reducible refine ai (fun hq => ?_) (fun hq => ?_) | with_reducible refine ag (by first | omega | grind [bW]) ?_ | with_reducible refine au ?_ | with_reducible refine cZ ?_ | with_reducible refine dH ?_ | with_reducible refine dF ?_ | with_reducible refine dI ?_ | with_reducible refine af ?_ | exact hr)
abbrev GS:=List ByteArray×(List (ByteArray×Int))×List Int×(List (dK×Unit))×(List (ByteArray×(List Int)))×Int
abbrev BS:=List ByteArray×List Int×(List (List Int))×List Int×List Int×Int
def IM (g:bB) (x:Int):GS:=(g.keys,g.at_,g.types,g.facts,g.incs,x)
def Bv (b:aN) (x:Int):BS:=(b.keys,b.types,b.wrote,b.incs,b.last_,x)
def Go1 (i n:Nat):GS ⊕ (Int ⊕ Int)→(List Call×Int) ⊕ (BS ⊕ Int)→Prop
 | .inl s,.inr (.inl t)=>∃ g b,s=IM g ((i + 1:Nat):Int)∧t=Bv b ((i + 1:Nat):Int)∧Sim g b n
 | .inr (.inr a),.inr (.inr b)=>a=1∧b=1
 | _,_=>False
theorem enters {g:bB} {b:aN} {n i:Nat} {l:List Call} {y:Event×Bool} (h:Sim g b n) (hy:y.1.Calls=l) (hl:l.length≤16) (hi:i < 64) (hn:n≤1024) (hc:wF l (fun c=>1≤c.Kind∧c.Kind≤8)) :
  Tri (iter (qR (i:Int) y) (IM g 0)) (fun x=>Tri (iter (gT (i:Int) l) (Bv b 0)) (Go1 i (n + 16) x)):=by
 refine Db l.length (fun k s t=>∃ g b,s=IM g (k:Int)∧t=Bv b (k:Int)∧Sim g b (n + k)) (Nat.zero_le _) ⟨g,b,rfl,rfl,h⟩ ?_;rintro k s t hk ⟨g,b,rfl,rfl,hS⟩;unfold qR gT IM Bv
 dsimp only
 rw [hy]
 refine ai (fun h => ?_) (fun h => ?_)
 ·refine ag (by omega) ?_;obtain ⟨r,hr,r',hr',hb⟩:=Km (who:=(i:Int)) hS (hc k (by omega)).1 (hc k (by omega)).2 (by omega) (by omega);refine aZ hr ?_;have hw:w64 ((k:Int) + 1)=((k + 1:Nat):Int):=aQ (by omega)
  rw [hw]
  repeat' (first | contradiction | with_reducible refine ai (fun hq => ?_) (fun hq => ?_) | with_reducible refine ag (by first | omega | grind [bW]) ?_ | with_reducible refine au ?_ | with_reducible refine cZ ?_ | with_reducible refine dH ?_ | with_reducible refine dF ?_ | with_reducible refine dI ?_ | with_reducible refine af ?_ | refine aZ hr' ?_)
  ·exact ⟨rfl,rfl⟩
  ·exact absurd (by rw [hb.1]; omega) ‹r.1≠0›
  ·exact absurd (by rw [← hb.1]; omega) ‹r'.1≠0›
  ·exact ⟨by omega,r.2,r'.2,rfl,rfl,hb.2 (by omega)⟩
 ·have hw:w64 ((i:Int) + 1)=((i + 1:Nat):Int):=aQ (by omega)
  rw [hw]
  repeat' (first | contradiction | with_reducible refine ai (fun hq => ?_) (fun hq => ?_) | with_reducible refine ag (by first | omega | grind [bW]) ?_ | with_reducible refine au ?_ | with_reducible refine cZ ?_ | with_reducible refine dH ?_ | with_reducible refine dF ?_ | with_reducible refine dI ?_ | with_reducible refine af ?_)
  exact ⟨g,b,rfl,rfl,hS.mono (by omega)⟩
theorem GU {h:History} {i:Nat} {b:aN} {Q:BS ⊕ Int→Prop} (hi:i < h.Txns.length) (hs:Ez (idx h.Txns (i:Int))) (a2:(idx h.Txns (i:Int)).Ops.length≤16)
  (h1:¬ (yo h (idx h.Txns (i:Int))∧Ba (Av h (idx h.Txns (i:Int))))→Q (.inr 1))
  (h2:yo h (idx h.Txns (i:Int))→Ba (Av h (idx h.Txns (i:Int)))→Tri (iter (gT (i:Int) (dO h (idx h.Txns (i:Int)))) (Bv b 0)) (fun x=>match x with | .inl _=>False | .inr y=>Q y)) :
  Tri (iter (gU h b.keys b.types b.wrote b.incs b.last_ (i:Int)) ([],0)) Q:=by
 generalize ht:idx h.Txns (i:Int)=t at hs a2 h1 h2;refine Ad t.Ops.length (fun k l=>l=(dO h t).take k∧∀ j:Nat,j < k→0≤(idx t.Ops (j:Int)).Key∧(idx t.Ops (j:Int)).Key < (h.Keys.length:Int)) ⟨rfl,by omega⟩ ?_
 rintro k l hk ⟨rfl,hJ⟩;have hlen:((dO h t).take k).length=k:=by simp [dO]; omega
 unfold gU oq tX
 simp only [cond_true,cond_false,hlen,ht]
 have hsm:=DI (e:=⟨0,t.Status,(dO h t).take k⟩) (hs.small k);have hfull:k=t.Ops.length→(dO h t).take k=dO h t:=fun e=>List.take_of_length_le (by simp [dO]; omega);have hnext:k < t.Ops.length→(dO h t).take (k + 1)=(dO h t).take k++[xy h (idx t.Ops (k:Int))]:=fun hk=>by
  rw [iQ (by simpa [dO] using hk),dO,yD hk]
 have hw:w64 ((k:Int) + 1)=((k + 1:Nat):Int):=aQ (by omega)
 rw [hw]
 repeat' (first | contradiction | with_reducible refine ai (fun hq => ?_) (fun hq => ?_) | with_reducible refine ag (by first | omega | grind [bW]) ?_ | with_reducible refine au ?_ | with_reducible refine cZ ?_ | with_reducible refine dH ?_ | with_reducible refine dF ?_ | with_reducible refine dI ?_ | with_reducible refine af ?_ | refine bU hsm (fun r hr => ?_))
 ·grind [Up2,yo,wF]
 ·grind [Up2,yo,wF]
 ·grind [Up2,xy]
 ·have a1:k=t.Ops.length:=by omega
  rw [hfull a1] at hr
  refine h1 (fun hh => ?_);have:=hr.1.2 hh.2
  contradiction
 ·have a1:k=t.Ops.length:=by omega
  rw [hfull a1] at hr ⊢
  have hK:yo _ t:=fun j hj=>hJ j (by omega);refine eX (h2 hK (hr.1.1 (by omega))) ?_;rintro (x | y) hxy
  ·exact hxy.elim
  ·exact hxy
def Bw (h:History) (i:Nat):Prop:=zm h.Txns i∧yo h (idx h.Txns (i:Int))∧Ba (Av h (idx h.Txns (i:Int)))
def qE (h:History):Prop:=h.Keys.length * 16≤140737488351232∧h.Txns.length * 56≤140737488351232∧wF h.Txns Ez
theorem MI {h:History} (hs:qE h) (hN:rO h.Keys) (b0:h.Txns.length≤32) :
  Tri (iter (nU h) (IM ⟨[],[],[],[],[]⟩ 0)) (fun x=>Tri (iter (kX h) (Bv ⟨[],[],[],[],[]⟩ 0)) (fun y=>(∃ v,x = .inr v∧v=y)∧(y=0∨y=1))):=by
 obtain ⟨a9,a8,a2⟩:=hs;refine Db h.Txns.length (fun k s t=>∃ g b,s=IM g (k:Int)∧t=Bv b (k:Int)∧Sim g b (k * 16)∧∀ j:Nat,j < k→Bw h j) (Nat.zero_le _) ⟨_,_,rfl,rfl,Sim.start,fun j hj=>absurd hj (Nat.not_lt_zero _)⟩ ?_;rintro k s t hk ⟨g,b,rfl,rfl,hS,hJ⟩;unfold nU qU kX kW IM Bv
 simp only [cond_true,cond_false]
 refine ai (fun a6 => ?_) (fun a6 => ?_)
 ·have a1:k < h.Txns.length:=by omega
  obtain ⟨r,hr,a4,a7⟩:=Cy (h:=h) (a2 k a1);obtain ⟨p,hp,a5⟩:=Bu (l:=h.Txns) a1 (by omega);obtain ⟨p',hp',hp1'⟩:=yI (l:=h.Txns) a1 (by omega);have hco:Ba (Av h (idx h.Txns (k:Int)))→(idx h.Txns (k:Int)).Ops.length≤16:=fun he=>by
   have:=he.2.2.1
   simpa [Av,dO] using this
  refine ag (by omega) (aZ hr ?_)
  by_cases hok:Bw h k
  ·have e1:r.2=true:=a4.2 ⟨hok.2.1,hok.2.2⟩;have e2:p=true:=a5.2 hok.1;have e3:p'=true:=hp1'.2 hok.1;have hc:wF (dO h (idx h.Txns (k:Int))) (fun c=>1≤c.Kind∧c.Kind≤8):=fun j hj=>⟨(hok.2.2.2.2.2 j hj).1,(hok.2.2.2.2.2 j hj).2.1⟩;obtain ⟨x,hx,y,hy,hxy⟩:=enters (y:=r) (i:=k) hS (congrArg Event.Calls (a7 e1)) hok.2.2.2.2.1 (by omega) (by omega) hc;refine ai (fun h=>absurd e1 h) (fun _ => ?_);refine ag (by omega) (aZ hp ?_);refine ai (fun h=>absurd e2 h) (fun _ => ?_);refine ⟨x,hx,?_⟩
   repeat' (first | contradiction | with_reducible refine ai (fun hq => ?_) (fun hq => ?_) | with_reducible refine ag (by first | omega | grind [bW]) ?_ | with_reducible refine au ?_ | with_reducible refine cZ ?_ | with_reducible refine dH ?_ | with_reducible refine dF ?_ | with_reducible refine dI ?_ | with_reducible refine af ?_ | refine aZ hp' ?_)
   ·exact absurd (hco hok.2.2) (by omega)
   ·refine GU a1 (a2 k a1) (hco hok.2.2) (fun hn=>absurd ⟨hok.2.1,hok.2.2⟩ hn) (fun _ _=>⟨y,hy,?_⟩);rcases x with s | a | a <;> rcases y with t | t | t
    ·exact hxy.elim
    ·obtain ⟨g',b',rfl,rfl,hS'⟩:=hxy;refine ⟨by omega,g',b',rfl,rfl,(show k * 16 + 16=(k + 1) * 16 by omega) ▸ hS',fun j hj => ?_⟩
     rcases Nat.lt_or_ge j k with h1 | h1
     ·exact hJ j h1
     ·rw [show j=k by omega]; exact hok
    ·exact hxy.elim
    ·exact hxy.elim
    ·exact hxy.elim
    ·exact hxy.elim
    ·exact hxy.elim
    ·exact hxy.elim
    ·obtain ⟨rfl,rfl⟩:=hxy;exact ⟨⟨1,rfl,rfl⟩,.inr rfl⟩
  ·have h1:Tri (iter (gU h b.keys b.types b.wrote b.incs b.last_ (k:Int)) ([],0)) (fun y=>p'=true→(idx h.Txns (k:Int)).Ops.length≤16→y = .inr 1) ∨ ¬ ((idx h.Txns (k:Int)).Ops.length≤16) ∨ ¬ p'=true:=by
    by_cases a3:(idx h.Txns (k:Int)).Ops.length≤16
    ·by_cases h3:p'=true
     ·refine .inl (GU a1 (a2 k a1) a3 (fun _ _ _=>rfl) (fun q1 q2=>absurd ⟨hp1'.1 h3,q1,q2⟩ hok))
     ·exact .inr (.inr h3)
    ·exact .inr (.inl a3)
   have hend:Tri (aT h.Txns (k:Int)) (fun y=>Tri (bif !y then (out (some 1):Option (BS ⊕ Int)) else bif decide ((((idx h.Txns (k:Int)).Ops).length:Int) > 16) then out (some 1) else iter (gU h b.keys b.types b.wrote b.incs b.last_ (k:Int)) ([],0)) (fun y=>y = .inr 1)):=by
    refine ⟨p',hp',?_⟩
    repeat' (first | contradiction | with_reducible refine ai (fun hq => ?_) (fun hq => ?_) | with_reducible refine ag (by first | omega | grind [bW]) ?_ | with_reducible refine au ?_ | with_reducible refine cZ ?_ | with_reducible refine dH ?_ | with_reducible refine dF ?_ | with_reducible refine dI ?_ | with_reducible refine af ?_)
    ·rfl
    ·rfl
    ·rcases h1 with h1 | h1 | h1
     ·exact eX h1 (fun y hy=>hy (Decidable.of_not_not ‹¬¬p'=true›) (by omega))
     ·omega
     ·contradiction
   have hend2:∀ {Q:BS ⊕ Int→Prop},Q (.inr 1)→Tri ((aT h.Txns (k:Int)).bind fun y=>bif !y then (out (some 1):Option (BS ⊕ Int)) else bif decide ((((idx h.Txns (k:Int)).Ops).length:Int) > 16) then out (some 1) else iter (gU h b.keys b.types b.wrote b.incs b.last_ (k:Int)) ([],0)) Q:=by
    intro Q hQ;refine bU hend (fun y hy=>eX hy ?_);rintro _ rfl;exact hQ
   repeat' (first | contradiction | with_reducible refine ai (fun hq => ?_) (fun hq => ?_) | with_reducible refine ag (by first | omega | grind [bW]) ?_ | with_reducible refine au ?_ | with_reducible refine cZ ?_ | with_reducible refine dH ?_ | with_reducible refine dF ?_ | with_reducible refine dI ?_ | with_reducible refine af ?_ | refine aZ hp ?_)
   ·refine hend2 ?_;exact ⟨⟨1,rfl,rfl⟩,.inr rfl⟩
   ·refine hend2 ?_;exact ⟨⟨1,rfl,rfl⟩,.inr rfl⟩
   ·exact absurd ⟨a5.1 (by grind),a4.1 (by grind)⟩ hok
 ·repeat' (first | contradiction | with_reducible refine ai (fun hq => ?_) (fun hq => ?_) | with_reducible refine ag (by first | omega | grind [bW]) ?_ | with_reducible refine au ?_ | with_reducible refine cZ ?_ | with_reducible refine dH ?_ | with_reducible refine dF ?_ | with_reducible refine dI ?_ | with_reducible refine af ?_)
  exact ⟨⟨0,rfl,rfl⟩,.inl rfl⟩
theorem CB {h:History} (hs:qE h):Tri (az h) (fun v=>Tri (aD h) (fun v'=>v=v'∧(v=0∨v=1))):=by
 obtain ⟨a5,a3,a2⟩:=hs;obtain ⟨y,hy,hn⟩:=EA (l:=h.Keys) (by omega);have hT:=fun hN a1=>MI (h:=h) ⟨a5,a3,a2⟩ hN a1;have hfail:¬ (rO h.Keys∧h.Txns.length≤32)→aD h=some 1:=by
  intro hno;refine eY.1 ?_;unfold aD iY
  simp only [cond_true,cond_false]
  repeat' (first | contradiction | with_reducible refine ai (fun hq => ?_) (fun hq => ?_) | with_reducible refine ag (by first | omega | grind [bW]) ?_ | with_reducible refine au ?_ | with_reducible refine cZ ?_ | with_reducible refine dH ?_ | with_reducible refine dF ?_ | with_reducible refine dI ?_ | with_reducible refine af ?_ | refine aZ hy ?_)
  ·rfl
  ·rfl
  ·exact absurd ⟨hn.1 (Decidable.of_not_not ‹¬¬y=true›),by omega⟩ hno
 have hgood:rO h.Keys→h.Txns.length≤32→Tri (iter (nU h) (IM ⟨[],[],[],[],[]⟩ 0)) (fun x=>Tri (aD h) (fun v'=>x = .inr v'∧(v'=0∨v'=1))):=by
  intro hN a1;refine eX (hT hN a1) (fun x hx => ?_);unfold aD iY
  simp only [cond_true,cond_false]
  have:=hn.2 hN
  repeat' (first | contradiction | with_reducible refine ai (fun hq => ?_) (fun hq => ?_) | with_reducible refine ag (by first | omega | grind [bW]) ?_ | with_reducible refine au ?_ | with_reducible refine cZ ?_ | with_reducible refine dH ?_ | with_reducible refine dF ?_ | with_reducible refine dI ?_ | with_reducible refine af ?_ | refine aZ hy ?_)
  ·omega
  ·refine eX hx (fun v hv => ?_);obtain ⟨⟨v2,rfl,rfl⟩,h2⟩:=hv;exact ⟨rfl,h2⟩
 have hbad:¬ (rO h.Keys∧h.Txns.length≤32)→Tri (aD h) (fun v'=>(1:Int)=v'∧((1:Int)=0∨(1:Int)=1)):=fun hno=>⟨1,hfail hno,rfl,.inr rfl⟩;unfold az qV
 simp only [cond_true,cond_false]
 repeat' (first | contradiction | with_reducible refine ai (fun hq => ?_) (fun hq => ?_) | with_reducible refine ag (by first | omega | grind [bW]) ?_ | with_reducible refine au ?_ | with_reducible refine cZ ?_ | with_reducible refine dH ?_ | with_reducible refine dF ?_ | with_reducible refine dI ?_ | with_reducible refine af ?_)
 ·exact hbad (fun hh=>by have:=hh.1.1; omega)
 ·exact hbad (fun hh=>by have:=hh.2; omega)
 ·refine oW h.Keys.length (Bb h.Keys) ?_;intro k hk hJ;unfold vg nT
  simp only [cond_true,cond_false]
  have hf:k < h.Keys.length→Tri (slices_Contains_string (dW h.Keys 0 (k:Int)) (idx h.Keys (k:Int))) (fun r=>r=true↔∃ j:Nat,j < k∧idx h.Keys (j:Int)=idx h.Keys (k:Int)):=by
   intro hk'
   rw [lm (by omega)]
   refine eX (FN (by simp; omega)) (fun r hr => ?_);have ht:(h.Keys.take k).length=k:=by simp; omega
   have hx:∀ j:Nat,j < k→idx (h.Keys.take k) (j:Int)=idx h.Keys (j:Int):=fun j h=>vY h
   rw [ht] at hr
   grind
  have he:=Gb (k:=idx h.Keys (k:Int));have hw:w64 ((k:Int) + 1)=((k + 1:Nat):Int):=aQ (by omega)
  rw [hw]
  have hNk:Bb h.Keys k↔(1≤(idx h.Keys (k:Int)).size∧(idx h.Keys (k:Int)).size≤32∧∀ j:Nat,j < k→idx h.Keys (j:Int)≠idx h.Keys (k:Int)):=Iff.rfl;have hno:k < h.Keys.length → ¬ Bb h.Keys k → ¬ (rO h.Keys∧h.Txns.length≤32):=fun h1 h2 h3=>h2 (h3.1.2 k h1);refine ai (fun a4 => ?_) (fun a4 => ?_)
  ·refine ag (by omega) ?_
   repeat' (first | contradiction | with_reducible refine ai (fun hq => ?_) (fun hq => ?_) | with_reducible refine ag (by first | omega | grind [bW]) ?_ | with_reducible refine au ?_ | with_reducible refine cZ ?_ | with_reducible refine dH ?_ | with_reducible refine dF ?_ | with_reducible refine dI ?_ | with_reducible refine af ?_ | refine bU (hf (by omega)) (fun r hr => ?_))
   ·exact hbad (hno (by omega) (by grind))
   ·exact hbad (hno (by omega) (by grind))
   ·exact hbad (hno (by omega) (by grind))
   ·exact ⟨rfl,by omega,by grind⟩
  ·have hN:rO h.Keys:=⟨by omega,fun i hi=>hJ i (by omega)⟩
   unfold pW;refine cZ ?_;obtain ⟨x,hx,v,hv,hq⟩:=hgood hN (by omega);obtain ⟨rfl,h2⟩:=hq;exact ⟨_,hx,v,hv,rfl,h2⟩
end Go.Proofs.YtfpeabnehpclnaaGreatDoorT
namespace Go.Proofs.YtfpeabnehpclnaaGreatDoorT
open Go Go.Proofs Go.Proofs.YtfpeabnehpclnaaGreatDoorE
set_option linter.unusedVariables false
set_option linter.unusedSimpArgs false
def rP (l:List Int) (c:Call) (w:Int) (s:ByteArray):List Int:=if c.Kind=4∧c.Key=s∧(l.length=0∨idx l ((l.length - 1:Nat):Int)≠w) then l++[w] else l
def mF (E:List (Call×Int)) (s:ByteArray):List Int:=E.foldl (fun l e=>rP l e.1 e.2 s) []
theorem CE {E:List (Call×Int)} {c:Call} {w:Int} {s:ByteArray}:mF (E++[(c,w)]) s=rP (mF E s) c w s:=by
 unfold mF; rw [List.foldl_append]; rfl
theorem vO {l:List Int} {c:Call} {w:Int} {s:ByteArray} (h:¬ (c.Kind=4∧c.Key=s)):rP l c w s=l:=by
 unfold rP; rw [if_neg (fun hh=>h ⟨hh.1,hh.2.1⟩)]
def NT (E:List (Call×Int)) (c:Call) (w:Int):Prop :=
 ((c.Kind=2∨c.Kind=3)→∀ e ∈ E,e.1.Key=c.Key→(e.1.Kind=2∨e.1.Kind=3)→e.1.Arg≠c.Arg)∧(c.Kind=4→(rP (mF E c.Key) c w c.Key).length≤8)
def Lr (E:List (Call×Int)) (c:Call) (w:Int):Prop:=(∀ e ∈ E,e.1.Key=c.Key→typ e.1.Kind=typ c.Kind)∧NT E c w
structure BookInv0 (E:List (Call×Int)) (b:aN):Prop where
 tl:b.types.length=b.keys.length
 wl:b.wrote.length=b.keys.length
 il:b.incs.length=b.keys.length
 ll:b.last_.length=b.keys.length
 nd:∀ i j:Nat,i < b.keys.length→j < b.keys.length→idx b.keys (i:Int)=idx b.keys (j:Int)→i=j
 ks:∀ e ∈ E,∃ j:Nat,j < b.keys.length∧idx b.keys (j:Int)=e.1.Key
 ty:∀ e ∈ E,∀ j:Nat,j < b.keys.length→idx b.keys (j:Int)=e.1.Key→idx b.types (j:Int)=typ e.1.Kind
 wr:∀ j:Nat,j < b.keys.length→∀ a,(∃ m:Nat,m < (idx b.wrote (j:Int)).length∧idx (idx b.wrote (j:Int)) (m:Int)=a)↔∃ e ∈ E,e.1.Key=idx b.keys (j:Int)∧(e.1.Kind=2∨e.1.Kind=3)∧e.1.Arg=a
 wn:∀ j:Nat,j < b.keys.length→(idx b.wrote (j:Int)).length≤E.length
 ic:∀ j:Nat,j < b.keys.length→idx b.incs (j:Int)=((mF E (idx b.keys (j:Int))).length:Int)
 i8:∀ j:Nat,j < b.keys.length→(mF E (idx b.keys (j:Int))).length≤8
 io:∀ s,(∀ j:Nat,j < b.keys.length→idx b.keys (j:Int)≠s)→mF E s=[]
 la:∀ j:Nat,j < b.keys.length→((mF E (idx b.keys (j:Int))).length=0→idx b.last_ (j:Int) = -1) ∧
  (0 < (mF E (idx b.keys (j:Int))).length→idx b.last_ (j:Int)=idx (mF E (idx b.keys (j:Int))) (((mF E (idx b.keys (j:Int))).length - 1:Nat):Int))
theorem BookInv0.start:BookInv0 [] ⟨[],[],[],[],[]⟩:=by
 refine ⟨rfl,rfl,rfl,rfl,?_,?_,?_,?_,?_,?_,?_,?_,?_⟩
 all_goals simp [mF]
theorem BookInv0.new {E:List (Call×Int)} {b:aN} (h:BookInv0 E b) {s:ByteArray} {t:Int} (hn:∀ j:Nat,j < b.keys.length→idx b.keys (j:Int)≠s) :
  BookInv0 E ⟨b.keys++[s],b.types++[t],b.wrote++[[]],b.incs++[0],b.last_++[-1]⟩:=by
 have hl:(b.keys++[s]).length=b.keys.length + 1:=by simp
 have k1:∀ j:Nat,j < b.keys.length→idx (b.keys++[s]) (j:Int)=idx b.keys (j:Int):=fun j hj=>kZ hj;have k2:idx (b.keys++[s]) ((b.keys.length:Nat):Int)=s:=jZ rfl;have t1:∀ j:Nat,j < b.keys.length→idx (b.types++[t]) (j:Int)=idx b.types (j:Int):=fun j hj=>kZ (by rw [h.tl]; exact hj);have w1:∀ j:Nat,j < b.keys.length→idx (b.wrote++[[]]) (j:Int)=idx b.wrote (j:Int):=fun j hj=>kZ (by rw [h.wl]; exact hj);have w2:idx (b.wrote++[[]]) ((b.keys.length:Nat):Int)=[]:=jZ h.wl.symm;have i1:∀ j:Nat,j < b.keys.length→idx (b.incs++[0]) (j:Int)=idx b.incs (j:Int):=fun j hj=>kZ (by rw [h.il]; exact hj);have i2:idx (b.incs++[0]) ((b.keys.length:Nat):Int)=0:=jZ h.il.symm;have l1:∀ j:Nat,j < b.keys.length→idx (b.last_++[-1]) (j:Int)=idx b.last_ (j:Int):=fun j hj=>kZ (by rw [h.ll]; exact hj);have l2:idx (b.last_++[-1]) ((b.keys.length:Nat):Int) = -1:=jZ h.ll.symm;have ho:=h.io s hn;have hne:∀ e ∈ E,e.1.Key≠s:=fun e he hs=>by
  obtain ⟨j,hj,hk⟩:=h.ks e he;exact hn j hj (hk.trans hs)
 have cut:∀ j:Nat,j < b.keys.length + 1→j < b.keys.length∨j=b.keys.length:=by omega
 refine ⟨by simp [h.tl],by simp [h.wl],by simp [h.il],by simp [h.ll],?_,?_,?_,?_,?_,?_,?_,?_,?_⟩
 ·intro i j hi hj he
  dsimp only at hi hj he
  rw [hl] at hi hj
  have:=h.nd i j;rcases cut i hi with hi' | hi' <;> rcases cut j hj with hj' | hj' <;> grind
 ·intro e he;obtain ⟨j,hj,hk⟩:=h.ks e he;exact ⟨j,by simp; omega,(k1 j hj).trans hk⟩
 ·intro e he j hj hk
  dsimp only at hj hk ⊢
  rw [hl] at hj
  rcases cut j hj with hj' | hj'
  ·rw [k1 j hj'] at hk; rw [t1 j hj']; exact h.ty e he j hj' hk
  ·subst hj'; rw [k2] at hk; exact absurd hk.symm (hne e he)
 ·intro j hj a
  dsimp only at hj ⊢
  rw [hl] at hj
  rcases cut j hj with hj' | hj'
  ·rw [k1 j hj',w1 j hj']; exact h.wr j hj' a
  ·subst hj'
   rw [k2,w2]
   constructor
   ·rintro ⟨m,hm,_⟩; simp at hm
   ·rintro ⟨e,he,hk,_⟩; exact absurd hk (hne e he)
 ·intro j hj
  dsimp only at hj ⊢
  rw [hl] at hj
  rcases cut j hj with hj' | hj'
  ·rw [w1 j hj']; exact h.wn j hj'
  ·subst hj'; rw [w2]; simp
 ·intro j hj
  dsimp only at hj ⊢
  rw [hl] at hj
  rcases cut j hj with hj' | hj'
  ·rw [k1 j hj',i1 j hj']; exact h.ic j hj'
  ·subst hj'; rw [k2,i2,ho]; rfl
 ·intro j hj
  dsimp only at hj ⊢
  rw [hl] at hj
  rcases cut j hj with hj' | hj'
  ·rw [k1 j hj']; exact h.i8 j hj'
  ·subst hj'; rw [k2,ho]; simp
 ·intro x hx
  dsimp only at hx ⊢
  rw [hl] at hx
  exact h.io x (fun j hj=>by rw [← k1 j hj]; exact hx j (by omega))
 ·intro j hj
  dsimp only at hj ⊢
  rw [hl] at hj
  rcases cut j hj with hj' | hj'
  ·rw [k1 j hj',l1 j hj']; exact h.la j hj'
  ·subst hj'; rw [k2,l2,ho]; simp
theorem iI {E:List (Call×Int)} {c:Call} {w:Int} {e:Call×Int}:e ∈ E++[(c,w)]↔e ∈ E∨e=(c,w):=by simp
theorem BookInv0.same {E:List (Call×Int)} {b:aN} {c:Call} {w:Int} {k:Nat} (h:BookInv0 E b) (hk:k < b.keys.length) (hs:idx b.keys (k:Int)=c.Key) (ht:idx b.types (k:Int)=typ c.Kind)
  (h2:c.Kind≠2) (h3:c.Kind≠3) (hw:rP (mF E c.Key) c w c.Key=mF E c.Key):BookInv0 (E++[(c,w)]) b:=by
 have hws:∀ s,mF (E++[(c,w)]) s=mF E s:=fun s=>by
  rw [CE]
  by_cases e:c.Kind=4∧c.Key=s
  ·rw [← e.2]; exact hw
  ·exact vO e
 refine ⟨h.tl,h.wl,h.il,h.ll,h.nd,?_,?_,?_,?_,?_,?_,?_,?_⟩
 ·intro e he;rcases iI.1 he with he | rfl
  ·exact h.ks e he
  ·exact ⟨k,hk,hs⟩
 ·intro e he j hj hkj;rcases iI.1 he with he | rfl
  ·exact h.ty e he j hj hkj
  ·have:=h.nd j k hj hk (hkj.trans hs.symm);subst this;exact ht
 ·intro j hj a
  rw [h.wr j hj a]
  constructor
  ·rintro ⟨e,he,r⟩; exact ⟨e,iI.2 (.inl he),r⟩
  ·rintro ⟨e,he,r⟩;rcases iI.1 he with he | rfl
   ·exact ⟨e,he,r⟩
   ·rcases r.2.1 with r | r <;> contradiction
 ·intro j hj;have:=h.wn j hj
  simp; omega
 ·intro j hj; rw [hws]; exact h.ic j hj
 ·intro j hj; rw [hws]; exact h.i8 j hj
 ·intro s hs'; rw [hws]; exact h.io s hs'
 ·intro j hj; rw [hws]; exact h.la j hj
theorem BookInv0.write {E:List (Call×Int)} {b:aN} {c:Call} {w:Int} {k:Nat} (h:BookInv0 E b) (hk:k < b.keys.length) (hs:idx b.keys (k:Int)=c.Key) (ht:idx b.types (k:Int)=typ c.Kind)
  (a1:c.Kind=2∨c.Kind=3):BookInv0 (E++[(c,w)]) ⟨b.keys,b.types,b.wrote.set k (idx b.wrote (k:Int)++[c.Arg]),b.incs,b.last_⟩:=by
 have hws:∀ s,mF (E++[(c,w)]) s=mF E s:=fun s=>by
  rw [CE]
  exact vO (fun e=>by omega)
 have w1:∀ j:Nat,idx (b.wrote.set k (idx b.wrote (k:Int)++[c.Arg])) (j:Int)=if j=k then idx b.wrote (k:Int)++[c.Arg] else idx b.wrote (j:Int):=fun j=>uk (by rw [h.wl]; exact hk);refine ⟨h.tl,by simp [h.wl],h.il,h.ll,h.nd,?_,?_,?_,?_,?_,?_,?_,?_⟩
 ·intro e he;rcases iI.1 he with he | rfl
  ·exact h.ks e he
  ·exact ⟨k,hk,hs⟩
 ·intro e he j hj hkj;rcases iI.1 he with he | rfl
  ·exact h.ty e he j hj hkj
  ·have:=h.nd j k hj hk (hkj.trans hs.symm);subst this;exact ht
 ·intro j hj a
  dsimp only at hj ⊢
  rw [w1 j]
  have hold:=h.wr j hj a
  by_cases e:j=k
  ·subst e
   rw [if_pos rfl]
   constructor
   ·rintro ⟨m,hm,he⟩;rcases Nat.lt_or_ge m (idx b.wrote (j:Int)).length with h1 | h1
    ·rw [kZ h1] at he
     obtain ⟨e,he',r⟩:=hold.1 ⟨m,h1,he⟩;exact ⟨e,iI.2 (.inl he'),r⟩
    ·simp at hm
     rw [jZ (by omega)] at he
     exact ⟨(c,w),iI.2 (.inr rfl),hs.symm,a1,he⟩
   ·rintro ⟨e,he,r⟩;rcases iI.1 he with he | rfl
    ·obtain ⟨m,hm,hh⟩:=hold.2 ⟨e,he,r⟩;exact ⟨m,by simp; omega,(kZ hm).trans hh⟩
    ·exact ⟨_,by simp,(jZ rfl).trans r.2.2⟩
  ·rw [if_neg e,hold]
   constructor
   ·rintro ⟨e,he,r⟩; exact ⟨e,iI.2 (.inl he),r⟩
   ·rintro ⟨e',he,r⟩;rcases iI.1 he with he | rfl
    ·exact ⟨e',he,r⟩
    ·exact absurd (h.nd j k hj hk (r.1.symm.trans hs.symm)) e
 ·intro j hj
  dsimp only at hj ⊢
  rw [w1 j]
  have:=h.wn j hj
  split
  ·rename_i e; subst e; simp; omega
  ·simp; omega
 ·intro j hj; rw [hws]; exact h.ic j hj
 ·intro j hj; rw [hws]; exact h.i8 j hj
 ·intro s hs'; rw [hws]; exact h.io s hs'
 ·intro j hj; rw [hws]; exact h.la j hj
theorem BookInv0.inc {E:List (Call×Int)} {b:aN} {c:Call} {w:Int} {k:Nat} (h:BookInv0 E b) (hk:k < b.keys.length) (hs:idx b.keys (k:Int)=c.Key) (ht:idx b.types (k:Int)=typ c.Kind)
  (h4:c.Kind=4) (hw:rP (mF E c.Key) c w c.Key=mF E c.Key++[w]) (h8:(mF E c.Key).length + 1≤8) :
  BookInv0 (E++[(c,w)]) ⟨b.keys,b.types,b.wrote,b.incs.set k (idx b.incs (k:Int) + 1),b.last_.set k w⟩:=by
 have hws:∀ s,mF (E++[(c,w)]) s=if c.Key=s then mF E s++[w] else mF E s:=fun s=>by
  rw [CE]
  by_cases e:c.Key=s
  ·rw [if_pos e,← e]; exact hw
  ·rw [if_neg e]; exact vO (fun hh=>e hh.2)
 have i1:∀ j:Nat,idx (b.incs.set k (idx b.incs (k:Int) + 1)) (j:Int)=if j=k then idx b.incs (k:Int) + 1 else idx b.incs (j:Int):=fun j=>uk (by rw [h.il]; exact hk);have l1:∀ j:Nat,idx (b.last_.set k w) (j:Int)=if j=k then w else idx b.last_ (j:Int):=fun j=>uk (by rw [h.ll]; exact hk);have hne:∀ j:Nat,j < b.keys.length→(c.Key=idx b.keys (j:Int)↔j=k):=fun j hj=>⟨fun e=>h.nd j k hj hk (e.symm.trans hs.symm),fun e=>by rw [e,hs]⟩
 refine ⟨h.tl,h.wl,by simp [h.il],by simp [h.ll],h.nd,?_,?_,?_,?_,?_,?_,?_,?_⟩
 ·intro e he;rcases iI.1 he with he | rfl
  ·exact h.ks e he
  ·exact ⟨k,hk,hs⟩
 ·intro e he j hj hkj;rcases iI.1 he with he | rfl
  ·exact h.ty e he j hj hkj
  ·have:=h.nd j k hj hk (hkj.trans hs.symm);subst this;exact ht
 ·intro j hj a
  dsimp only at hj ⊢
  rw [h.wr j hj a]
  constructor
  ·rintro ⟨e,he,r⟩; exact ⟨e,iI.2 (.inl he),r⟩
  ·rintro ⟨e,he,r⟩;rcases iI.1 he with he | rfl
   ·exact ⟨e,he,r⟩
   ·have:=r.2.1; dsimp only at this; omega
 ·intro j hj;have:=h.wn j hj
  simp; omega
 ·intro j hj
  dsimp only at hj ⊢
  have:=h.ic j hj
  rw [hws,i1 j]
  by_cases e:j=k
  ·rw [if_pos e,if_pos ((hne j hj).2 e)]; subst e; simp; omega
  ·rw [if_neg e,if_neg (fun hh=>e ((hne j hj).1 hh))]; exact this
 ·intro j hj
  dsimp only at hj ⊢
  rw [hws]
  by_cases e:j=k
  ·rw [if_pos ((hne j hj).2 e)]; subst e; rw [hs]; simp; omega
  ·rw [if_neg (fun hh=>e ((hne j hj).1 hh))]; exact h.i8 j hj
 ·intro s hs'
  dsimp only at hs'
  rw [hws,if_neg (fun e=>hs' k hk (hs.trans e))]
  exact h.io s hs'
 ·intro j hj
  dsimp only at hj ⊢
  rw [hws,l1 j]
  by_cases e:j=k
  ·rw [if_pos e,if_pos ((hne j hj).2 e)]
   refine ⟨fun h0=>by simp at h0,fun _ => ?_⟩
   rw [jZ (by simp)]
  ·rw [if_neg e,if_neg (fun hh=>e ((hne j hj).1 hh))]; exact h.la j hj
theorem Ls {E:List (Call×Int)} {b:aN} {c:Call} {w:Int} {k:Nat} (h:BookInv0 E b) (hk:k < b.keys.length) (hs:idx b.keys (k:Int)=c.Key) (ht:idx b.types (k:Int)=typ c.Kind)
  (h1:1≤c.Kind) (h8:c.Kind≤8) (hw:0≤w) (hE:E.length≤4096) :
  Tri (fC c w b.keys b.types b.wrote b.incs b.last_ (k:Int)) (fun r=>(r.1=0↔NT E c w)∧(r.1=0→BookInv0 (E++[(c,w)]) r.2∧r.2.keys=b.keys∧r.2.types=b.types)):=by
 have hin:=h.ic k hk;have a1:=h.i8 k hk;have hla:=h.la k hk;have hwr:=h.wr k hk c.Arg;have hwn:=h.wn k hk
 rw [hs] at hin a1 hla hwr
 refine eX (GR (who:=w) hk h.tl h.wl h.il h.ll (by omega) (by omega) h1 h8) (fun r hr => ?_);have stay:∀ {l:List Int},rP (mF E c.Key) c w c.Key=l→l=if c.Kind=4∧((mF E c.Key).length=0∨idx (mF E c.Key) (((mF E c.Key).length - 1:Nat):Int)≠w) then mF E c.Key++[w] else mF E c.Key:=by
  rintro l rfl;unfold rP
  simp
 have st:=stay rfl;rcases hr with ⟨a,rfl⟩ | ⟨_,b1,b2,rfl⟩ | ⟨_,b1,b2,rfl⟩ | ⟨_,b1,b2,b3,b4⟩ | ⟨_,b1,b2,b3,rfl⟩ | ⟨_,b1,b2,rfl⟩ | ⟨_,b1,b2,b3,rfl⟩
 ·exact absurd ht a
 ·refine ⟨⟨fun h=>by simp at h,fun hh => ?_⟩,fun h=>by simp at h⟩
  obtain ⟨e,he,r1,r2,r3⟩:=hwr.1 b2;exact absurd r3 (hh.1 b1 e he r1 r2)
 ·refine ⟨⟨fun _=>⟨fun _ e he r1 r2 r3=>b2 (hwr.2 ⟨e,he,r1,r2,r3⟩),fun h4=>by omega⟩,fun _=>rfl⟩,fun _=>⟨h.write hk hs ht b1,rfl,rfl⟩⟩
 ·have hne:(mF E c.Key).length=0∨idx (mF E c.Key) (((mF E c.Key).length - 1:Nat):Int)≠w:=by grind
  rw [if_pos ⟨b1,hne⟩] at st
  refine ⟨⟨fun h0=>by omega,fun hh => ?_⟩,fun h0=>by omega⟩
  have:=hh.2 b1
  rw [st] at this
  simp at this
  omega
 ·have hne:(mF E c.Key).length=0∨idx (mF E c.Key) (((mF E c.Key).length - 1:Nat):Int)≠w:=by grind
  rw [if_pos ⟨b1,hne⟩] at st
  refine ⟨⟨fun _=>⟨fun h=>by omega,fun _=>by rw [st]; simp; omega⟩,fun _=>rfl⟩,fun _=>⟨h.inc hk hs ht b1 st (by omega),rfl,rfl⟩⟩
 ·have hne:¬ ((mF E c.Key).length=0∨idx (mF E c.Key) (((mF E c.Key).length - 1:Nat):Int)≠w):=by grind
  rw [if_neg (fun hh=>hne hh.2)] at st
  refine ⟨⟨fun _=>⟨fun h=>by omega,fun _=>by rw [st]; exact a1⟩,fun _=>rfl⟩,fun _=>⟨h.same hk hs ht (by omega) (by omega) st,rfl,rfl⟩⟩
 ·rw [if_neg (fun hh=>b3 hh.1)] at st
  refine ⟨⟨fun _=>⟨fun h=>by omega,fun h=>by omega⟩,fun _=>rfl⟩,fun _=>⟨h.same hk hs ht b1 b2 st,rfl,rfl⟩⟩
structure rQ (E:List (Call×Int)) (b:aN):Prop extends BookInv0 E b where
 len:b.keys.length≤32
 kex:∀ j:Nat,j < b.keys.length→∃ e ∈ E,e.1.Key=idx b.keys (j:Int)
theorem rQ.start:rQ [] ⟨[],[],[],[],[]⟩:=⟨BookInv0.start,by simp,fun j hj=>by simp at hj⟩
theorem MJ {E:List (Call×Int)} {b:aN} {c:Call} {w:Int} (h:rQ E b) (hroom:b.keys.length=32→∃ j:Nat,j < b.keys.length∧idx b.keys (j:Int)=c.Key)
  (h1:1≤c.Kind) (h8:c.Kind≤8) (hw:0≤w) (hE:E.length≤4096) :
  Tri (ak b c w) (fun r=>(r.1=0↔Lr E c w)∧(r.1=0→rQ (E++[(c,w)]) r.2)):=by
 have hl:=h.len;have t1:=h.tl;have t2:=h.wl;have t3:=h.il;have t4:=h.ll;obtain ⟨r0,a6,hf⟩:=Cz (l:=b.keys) (s:=c.Key) (by omega);unfold ak
 rw [a6]
 refine cZ ?_;rcases hf with ⟨rfl,hno⟩ | ⟨k,rfl,a1,a2,_⟩
 ·refine ai (fun _ => ?_) (fun hh=>by omega);refine ai (fun a5 => ?_) (fun a5 => ?_)
  ·obtain ⟨j,hj,he⟩:=hroom (by omega);exact absurd he (hno j hj)
  ·have hn:=h.toBookInv0.new (s:=c.Key) (t:=typ c.Kind) hno;have hat:=Ls (w:=w) hn (k:=b.keys.length) (by simp) (jZ rfl) (jZ t1.symm) h1 h8 hw hE;have hne:∀ e ∈ E,e.1.Key≠c.Key:=fun e he hs=>by
    obtain ⟨j,hj,hk⟩:=h.ks e he;exact hno j hj (hk.trans hs)
   unfold ky kw
   simp only [Eb h1 h8]
   refine ag (by omega) (cZ (ag (by omega) (ag (by omega) (ag (by omega) (ag (by omega) ?_)))));refine eX hat (fun r hr => ?_);refine ⟨hr.1.trans ⟨fun hh=>⟨fun e he hs=>absurd hs (hne e he),hh⟩,fun hh=>hh.2⟩,fun h0 => ?_⟩;obtain ⟨q1,q2,q3⟩:=hr.2 h0;refine ⟨q1,by rw [q2]; simp; omega,fun j hj => ?_⟩
   rw [q2] at hj ⊢
   have hj:j < b.keys.length + 1:=by simpa using hj
   rcases (by omega:j < b.keys.length∨j=b.keys.length) with hj' | hj'
   ·obtain ⟨e,he,hk⟩:=h.kex j hj';exact ⟨e,iI.2 (.inl he),by rw [hk]; exact (kZ hj').symm⟩
   ·subst hj';exact ⟨(c,w),iI.2 (.inr rfl),(jZ rfl).symm⟩
 ·refine ai (fun hh=>by omega) (fun _ => ?_);obtain ⟨e0,a3,a4⟩:=h.kex k a1;have hty:=h.ty e0 a3 k a1 a4.symm
  by_cases ht:idx b.types (k:Int)=typ c.Kind
  ·have hat:=Ls (w:=w) h.toBookInv0 a1 a2 ht h1 h8 hw hE;refine eX hat (fun r hr => ?_);refine ⟨hr.1.trans ⟨fun hh=>⟨fun e he hs => ?_,hh⟩,fun hh=>hh.2⟩,fun h0 => ?_⟩
   ·exact (h.ty e he k a1 (a2.trans hs.symm)).symm.trans ht
   ·obtain ⟨q1,q2,q3⟩:=hr.2 h0;refine ⟨q1,by rw [q2]; exact hl,fun j hj => ?_⟩
    rw [q2] at hj ⊢
    obtain ⟨e,he,hk⟩:=h.kex j hj;exact ⟨e,iI.2 (.inl he),hk⟩
  ·have hin:=h.ic k a1;have a7:=h.i8 k a1;have hwn:=h.wn k a1;refine eX (GR (who:=w) a1 t1 t2 t3 t4 (by omega) (by omega) h1 h8) (fun r hr => ?_);have hno:¬ Lr E c w:=fun hh=>ht (hty.trans (hh.1 e0 a3 (a4.trans a2)));rcases hr with ⟨a,rfl⟩ | ⟨a,_⟩ | ⟨a,_⟩ | ⟨a,_⟩ | ⟨a,_⟩ | ⟨a,_⟩ | ⟨a,_⟩
   ·exact ⟨⟨fun h=>by simp at h,fun hh=>absurd hh hno⟩,fun h=>by simp at h⟩
   all_goals exact absurd a ht
def Ay (h:History) (i:Nat):List (Call×Int):=(dO h (idx h.Txns (i:Int))).map (fun c=>(c,(i:Int)))
def uM (h:History) (k:Nat):List (Call×Int):=(List.range k).flatMap (Ay h)
theorem vQ {h:History} {k:Nat}:uM h (k + 1)=uM h k++Ay h k:=by
 unfold uM; rw [List.range_succ,List.flatMap_append]; simp
def qF (E L:List (Call×Int)):Prop:=∀ j:Nat,j < L.length→Lr (E++L.take j) (idx L (j:Int)).1 (idx L (j:Int)).2
theorem qF.append {E L M:List (Call×Int)}:qF E (L++M)↔qF E L∧qF (E++L) M:=by
 constructor
 ·intro h;refine ⟨fun j hj => ?_,fun j hj => ?_⟩
  ·have:=h j (by simp; omega)
   rwa [kZ hj,List.take_append_of_le_length (by omega)] at this
  ·have:=h (L.length + j) (by simp; omega)
   rw [List.take_append,List.take_of_length_le (by omega),show L.length + j - L.length=j by omega,← List.append_assoc] at this
   rwa [show idx (L++M) ((L.length + j:Nat):Int)=idx M (j:Int) from by
    rw [bS rfl (by simp; omega),bS rfl hj,List.getElem_append_right (by omega)]; congr 1; omega] at this
 ·rintro ⟨h1,h2⟩ j hj;rcases Nat.lt_or_ge j L.length with h3 | h3
  ·rw [kZ h3,List.take_append_of_le_length (by omega)]; exact h1 j h3
  ·obtain ⟨i,rfl⟩:∃ i,j=L.length + i:=⟨j - L.length,by omega⟩
   have hi:i < M.length:=by simp at hj; omega
   have:=h2 i hi
   rw [List.take_append,List.take_of_length_le (by omega),show L.length + i - L.length=i by omega,← List.append_assoc]
   rwa [show idx (L++M) ((L.length + i:Nat):Int)=idx M (i:Int) from by
    rw [bS rfl (by simp; omega),bS rfl hi,List.getElem_append_right (by omega)]; congr 1; omega]
theorem room {K l:List ByteArray} {s:ByteArray} (hK:K.length≤32) (hl:l.length=32) (nd:∀ i j:Nat,i < l.length→j < l.length→idx l (i:Int)=idx l (j:Int)→i=j)
  (hs:s ∈ K) (hsub:∀ x ∈ l,x ∈ K):∃ j:Nat,j < l.length∧idx l (j:Int)=s:=by
 have hnd:l.Nodup:=by
  rw [List.nodup_iff_pairwise_ne,List.pairwise_iff_getElem]
  intro i j hi hj hij he;have:=nd i j hi hj (by rw [bS rfl hi,bS rfl hj]; exact he)
  omega
 by_cases h:s ∈ l
 ·obtain ⟨j,hj,he⟩:=List.getElem_of_mem h;exact ⟨j,hj,(bS rfl hj).trans he⟩
 ·have h1:(s::l).Nodup:=List.nodup_cons.2 ⟨h,hnd⟩;have h2:=h1.length_le_of_subset (l₂:=K) (fun x hx=>by
   rcases List.mem_cons.1 hx with rfl | hx
   ·exact hs
   ·exact hsub x hx)
  simp at h2
  omega
def InK (K:List ByteArray) (E:List (Call×Int)):Prop:=∀ e ∈ E,e.1.Key ∈ K
theorem rQ.sub {K:List ByteArray} {E:List (Call×Int)} {b:aN} (h:rQ E b) (hE:InK K E):∀ x ∈ b.keys,x ∈ K:=by
 intro x hx;obtain ⟨j,hj,rfl⟩:=List.getElem_of_mem hx;obtain ⟨e,he,hk⟩:=h.kex j hj;have:=hE e he
 rw [hk,bS rfl hj] at this
 exact this
theorem Kn {K:List ByteArray} {E:List (Call×Int)} {b:aN} {i:Nat} {l:List Call} (h:rQ E b) (hK:K.length≤32) (hEK:InK K E) (hlK:∀ c ∈ l,c.Key ∈ K) (hl:l.length≤16) (hi:i < 64) (hn:E.length≤1024)
  (hc:wF l (fun c=>1≤c.Kind∧c.Kind≤8)) :
  Tri (iter (gT (i:Int) l) (Bv b 0)) (fun x=>(qF E (l.map (fun c=>(c,(i:Int))))→∃ b',x = .inr (.inl (Bv b' ((i + 1:Nat):Int)))∧rQ (E++l.map (fun c=>(c,(i:Int)))) b') ∧
   (¬ qF E (l.map (fun c=>(c,(i:Int))))→x = .inr (.inr 1))):=by
 generalize hm:l.map (fun c=>(c,(i:Int)))=m;have hml:m.length=l.length:=by rw [← hm]; simp
 have hmi:∀ k:Nat,k < l.length→idx m (k:Int)=(idx l (k:Int),(i:Int)):=fun k hk=>by rw [← hm,yD hk]
 refine bN (k0:=0) l.length (fun k s=>∃ b',s=Bv b' (k:Int)∧rQ (E++m.take k) b'∧∀ j:Nat,j < k→Lr (E++m.take j) (idx m (j:Int)).1 (idx m (j:Int)).2) (Nat.zero_le _) ⟨b,rfl,by simpa using h,fun j hj=>absurd hj (Nat.not_lt_zero _)⟩ ?_
 rintro k s hk ⟨b',rfl,hb,hJ⟩;unfold gT Bv
 dsimp only
 refine ai (fun a3 => ?_) (fun a3 => ?_)
 ·have a1:k < l.length:=by omega
  have hin:InK K (E++m.take k):=fun e he=>by
   rcases List.mem_append.1 he with he | he
   ·exact hEK e he
   ·have:=List.mem_of_mem_take he
    rw [← hm] at this
    obtain ⟨c,hc,rfl⟩:=List.mem_map.1 this;exact hlK c hc
  have hcK:(idx l (k:Int)).Key ∈ K:=hlK _ (by rw [bS rfl a1]; exact List.getElem_mem a1);have hw:w64 ((k:Int) + 1)=((k + 1:Nat):Int):=aQ (by omega);obtain ⟨r,hr,q1,q2⟩:=MJ (c:=idx l (k:Int)) (w:=(i:Int)) hb (fun a2=>room hK a2 hb.nd hcK (hb.sub hin)) (hc k a1).1 (hc k a1).2 (by omega) (by simp; omega);refine ag (by omega) (aZ hr ?_);refine ai (fun h0 => ?_) (fun h0 => ?_)
  ·refine au (au (au (af ⟨fun hall => ?_,fun _=>rfl⟩)));have:=hall k (by omega)
   rw [hmi k a1] at this
   exact absurd (q1.2 this) h0
  ·refine af ⟨a1,r.2,?_,?_,?_⟩
   ·rw [hw]
   ·rw [iQ (by omega),hmi k a1,← List.append_assoc]
    exact q2 (by omega)
   ·intro j hj;rcases Nat.lt_or_ge j k with h1 | h1
    ·exact hJ j h1
    ·rw [show j=k by omega,hmi k a1]; exact q1.1 (by omega)
 ·have hw:w64 ((i:Int) + 1)=((i + 1:Nat):Int):=aQ (by omega)
  rw [hw]
  have hfull:m.take k=m:=List.take_of_length_le (by omega)
  rw [hfull] at hb
  refine au (au (af ⟨fun _=>⟨b',rfl,hb⟩,fun hno=>absurd (fun j hj=>hJ j (by omega)) hno⟩))
structure dB (h:History):Prop where
 names:rO h.Keys
 len:h.Txns.length≤32
 txn:∀ i:Nat,i < h.Txns.length→Bw h i
 ents:qF [] (uM h h.Txns.length)
theorem keys_in {h:History} {i:Nat} (hi:yo h (idx h.Txns (i:Int))):∀ c ∈ dO h (idx h.Txns (i:Int)),c.Key ∈ h.Keys:=by
 intro c hc;obtain ⟨o,ho,rfl⟩:=List.mem_map.1 hc;have:=(zI.1 hi) o ho
 show idx h.Keys o.Key ∈ h.Keys
 rw [bS (n:=o.Key.toNat) (by omega) (by omega)]
 exact List.getElem_mem _
theorem MK {h:History} {i:Nat} (hi:Bw h i):(Ay h i).length≤16:=by
 have:=hi.2.2.2.2.1
 simpa [Ay,Av,dO] using this
theorem DJ {h:History} (hs:qE h):Tri (aD h) (fun v=>(v=0↔dB h)∧(v=0∨v=1)):=by
 obtain ⟨a6,a5,a2⟩:=hs;obtain ⟨y,hy,hn⟩:=EA (l:=h.Keys) (by omega);unfold aD iY
 simp only [cond_true,cond_false]
 repeat' (first | contradiction | with_reducible refine ai (fun hq => ?_) (fun hq => ?_) | with_reducible refine ag (by first | omega | grind [bW]) ?_ | with_reducible refine au ?_ | with_reducible refine cZ ?_ | with_reducible refine dH ?_ | with_reducible refine dF ?_ | with_reducible refine dI ?_ | with_reducible refine af ?_ | refine aZ hy ?_)
 ·exact ⟨⟨fun h=>absurd h (by decide),fun hS=>absurd (hn.2 hS.names) ‹¬y=true›⟩,.inr rfl⟩
 ·exact ⟨⟨fun h=>absurd h (by decide),fun hS=>absurd hS.len (by omega)⟩,.inr rfl⟩
 ·have hN:rO h.Keys:=hn.1 (Decidable.of_not_not ‹¬¬y=true›);have a4:h.Txns.length≤32:=by omega
  refine bN (k0:=0) h.Txns.length (fun k s=>∃ b,s=Bv b (k:Int)∧rQ (uM h k) b∧InK h.Keys (uM h k)∧(uM h k).length≤16 * k∧qF [] (uM h k)∧∀ j:Nat,j < k→Bw h j) (Nat.zero_le _)
   ⟨⟨[],[],[],[],[]⟩,rfl,rQ.start,fun e he=>by simp [uM] at he,by simp [uM],fun j hj=>by simp [uM] at hj,fun j hj=>absurd hj (Nat.not_lt_zero _)⟩ ?_
  rintro k s hk ⟨b,rfl,hb,hin,hlen,hents,hJ⟩;unfold kX kW Bv
  simp only [cond_true,cond_false]
  have hbad:(k < h.Txns.length → ¬ Bw h k)→k < h.Txns.length → ¬ dB h:=fun h1 h2 hS=>h1 h2 (hS.txn k h2);refine ai (fun a3 => ?_) (fun a3 => ?_)
  ·have a1:k < h.Txns.length:=by omega
   obtain ⟨p',hp',hp1'⟩:=yI (l:=h.Txns) a1 (by omega);have hco:Ba (Av h (idx h.Txns (k:Int)))→(idx h.Txns (k:Int)).Ops.length≤16:=fun he=>by
    have:=he.2.2.1
    simpa [Av,dO] using this
   repeat' (first | contradiction | with_reducible refine ai (fun hq => ?_) (fun hq => ?_) | with_reducible refine ag (by first | omega | grind [bW]) ?_ | with_reducible refine au ?_ | with_reducible refine cZ ?_ | with_reducible refine dH ?_ | with_reducible refine dF ?_ | with_reducible refine dI ?_ | with_reducible refine af ?_ | refine aZ hp' ?_)
   ·exact ⟨⟨fun h=>absurd h (by decide),fun hS=>absurd (hp1'.2 (hS.txn k a1).1) ‹¬p'=true›⟩,.inr rfl⟩
   ·exact ⟨⟨fun h=>absurd h (by decide),fun hS=>absurd (hco (hS.txn k a1).2.2) (by omega)⟩,.inr rfl⟩
   ·refine GU (b:=b) a1 (a2 k a1) (by omega) (fun hno => ?_) (fun hKo hEv => ?_)
    ·exact ⟨⟨fun h=>absurd h (by decide),fun hS=>absurd ⟨(hS.txn k a1).2.1,(hS.txn k a1).2.2⟩ hno⟩,.inr rfl⟩
    ·have hok:Bw h k:=⟨hp1'.1 (Decidable.of_not_not ‹¬¬p'=true›),hKo,hEv⟩;have hc:wF (dO h (idx h.Txns (k:Int))) (fun c=>1≤c.Kind∧c.Kind≤8):=fun j hj=>⟨(hEv.2.2.2 j hj).1,(hEv.2.2.2 j hj).2.1⟩;refine eX (Kn (i:=k) hb hN.1 hin (keys_in hKo) hEv.2.2.1 (by omega) (by omega) hc) (fun x hx => ?_)
     by_cases hall:qF (uM h k) (Ay h k)
     ·obtain ⟨b',rfl,hb'⟩:=hx.1 hall;refine ⟨a1,b',rfl,by rw [vQ]; exact hb',?_,?_,?_,?_⟩
      ·rw [vQ]
       intro e he;rcases List.mem_append.1 he with he | he
       ·exact hin e he
       ·obtain ⟨c,hc,rfl⟩:=List.mem_map.1 he;exact keys_in hKo c hc
      ·have:=MK hok
       rw [vQ,List.length_append]; omega
      ·rw [vQ]
       exact qF.append.2 ⟨hents,hall⟩
      ·intro j hj;rcases Nat.lt_or_ge j k with h1 | h1
       ·exact hJ j h1
       ·rw [show j=k by omega]; exact hok
     ·rw [hx.2 hall]
      refine ⟨⟨fun h=>absurd h (by decide),fun hS=>absurd ?_ hall⟩,.inr rfl⟩;have hsp:∀ n:Nat,k + 1≤n→qF [] (uM h n)→qF (uM h k) (Ay h k):=by
       intro n
       induction n with
       | zero=>intro h; omega
       | succ n ih =>
        intro hn hE
        rw [vQ,qF.append] at hE
        rcases Nat.lt_or_ge k n with h1 | h1
        ·exact ih (by omega) hE.1
        ·rw [show n=k by omega] at hE
         exact hE.2
      exact hsp _ a1 hS.ents
  ·have a1:k=h.Txns.length:=by omega
   repeat' (first | contradiction | with_reducible refine ai (fun hq => ?_) (fun hq => ?_) | with_reducible refine ag (by first | omega | grind [bW]) ?_ | with_reducible refine au ?_ | with_reducible refine cZ ?_ | with_reducible refine dH ?_ | with_reducible refine dF ?_ | with_reducible refine dI ?_ | with_reducible refine af ?_)
   rw [a1] at hents hJ
   exact ⟨⟨fun _=>⟨hN,a4,hJ,hents⟩,fun _=>rfl⟩,.inl rfl⟩
theorem EB {h:History} (hs:qE h):∃ v,az h=some v∧aD h=some v∧(v=0∨v=1)∧(v=0↔dB h):=by
 obtain ⟨v,hv,v',hv',rfl,a1⟩:=CB hs;obtain ⟨w,hw,h1,h2⟩:=DJ hs;have:v=w:=Option.some.inj (hv'.symm.trans hw);subst this;exact ⟨v,hv,hv',a1,h1⟩
end Go.Proofs.YtfpeabnehpclnaaGreatDoorT
namespace Go.Proofs.YtfpeabnehpclnaaGreatDoorT
open Go Go.Proofs Go.Proofs.YtfpeabnehpclnaaGreatDoorE
set_option linter.unusedVariables false
set_option linter.unusedSimpArgs false
def vR (ops:List Op) (key:Int) (p:Nat):List Int:=((ops.take p).filter (fun o=>decide (o.Key=key∧o.Kind≤4))).map (·.Arg)
theorem ML {ops:List Op} {key:Int}:vR ops key 0=[]:=rfl
theorem zY {ops:List Op} {key:Int} {p:Nat} (h:p < ops.length):vR ops key (p + 1)=if (idx ops (p:Int)).Key=key∧(idx ops (p:Int)).Kind≤4 then vR ops key p++[(idx ops (p:Int)).Arg] else vR ops key p:=by
 unfold vR
 rw [iQ h,List.filter_append,List.map_append]
 by_cases e:(idx ops (p:Int)).Key=key∧(idx ops (p:Int)).Kind≤4
 ·simp [e]
 ·rw [if_neg e]
  simp only [List.filter_cons,List.filter_nil,decide_eq_true_eq,if_neg e]
  simp
theorem zo {ops:List Op} {key:Int} {p:Nat}:(vR ops key p).length≤ops.length:=by
 unfold vR
 rw [List.length_map]
 exact Nat.le_trans (List.length_filter_le _ _) (by simp; omega)
def Dl (ops:List Op) (t:Int) (p:Nat):List Ask :=
 let o:=idx ops (p:Int)
 let mine:=vR ops o.Key p
 if o.Kind≤4 then [] else if mine=[] then [⟨t,p,o.Key,o.Vals⟩] else if (before (o.Kind - 4) o.Vals mine).2=true∧o.Kind≠5 then [⟨t,p,o.Key,(before (o.Kind - 4) o.Vals mine).1⟩] else []
def EC (ops:List Op) (t:Int) (p:Nat):List pq :=
 let o:=idx ops (p:Int)
 let mine:=vR ops o.Key p
 if o.Kind≤4 then [] else if mine=[] then [] else if (before (o.Kind - 4) o.Vals mine).2=true then [] else [⟨t,p⟩]
def vT (ops:List Op) (t:Int) (k:Nat):List Ask:=(List.range k).flatMap (Dl ops t)
def wQ (ops:List Op) (t:Int) (k:Nat):List pq:=(List.range k).flatMap (EC ops t)
theorem Dm {ops:List Op} {t:Int} {k:Nat}:vT ops t (k + 1)=vT ops t k++Dl ops t k:=by
 unfold vT; rw [List.range_succ,List.flatMap_append]; simp
theorem Bz {ops:List Op} {t:Int} {k:Nat}:wQ ops t (k + 1)=wQ ops t k++EC ops t k:=by
 unfold wQ; rw [List.range_succ,List.flatMap_append]; simp
theorem ED {ops:List Op} {t:Int} {k:Nat}:(vT ops t k).length≤k:=by
 induction k with
 | zero=>simp [vT]
 | succ k ih =>
  rw [Dm,List.length_append]
  have:(Dl ops t k).length≤1:=by
   unfold Dl
   dsimp only
   split
   ·simp
   ·split
    ·simp
    ·split <;> simp
  omega
theorem Dn {ops:List Op} {t:Int} {k:Nat}:(wQ ops t k).length≤k:=by
 induction k with
 | zero=>simp [wQ]
 | succ k ih =>
  rw [Bz,List.length_append]
  have:(EC ops t k).length≤1:=by
   unfold EC
   dsimp only
   split
   ·simp
   ·split
    ·simp
    ·split <;> simp
  omega
def xz (h:History) (t:Int):List Ask:=if (idx h.Txns t).Status=1 then vT (idx h.Txns t).Ops t (idx h.Txns t).Ops.length else []
def zZ (h:History) (t:Int):List pq:=if (idx h.Txns t).Status=1 then wQ (idx h.Txns t).Ops t (idx h.Txns t).Ops.length else []
def NU (ops:List Op):Prop:=ops.length≤16∧wF ops (fun o=>1≤o.Kind∧o.Kind≤8∧o.Vals.length≤64)
theorem Bw.ops {h:History} {i:Nat} (hi:Bw h i):NU (idx h.Txns (i:Int)).Ops:=by
 obtain ⟨_,_,_,_,h1,h2⟩:=hi;refine ⟨by simpa [Av,dO] using h1,fun j hj => ?_⟩
 have:=h2 j (by simpa [Av,dO] using hj)
 dsimp only [Av,dO] at this
 rw [yD hj] at this
 unfold uE xy at this
 dsimp only at this
 grind
theorem MM {h:History} {t:Nat} {f:fu} (ht:t < h.Txns.length) (ho:NU (idx h.Txns (t:Int)).Ops) (ha:f.asks.length≤1000000) (hb:f.bad.length≤1000000) :
  Tri (bv f h (t:Int)) (fun r=>r=⟨f.asks++xz h (t:Int),f.bad++zZ h (t:Int)⟩):=by
 unfold bv xz zZ;refine ag (by omega) ?_;refine ai (fun h1 => ?_) (fun h1 => ?_)
 ·rw [if_neg h1,if_neg h1]
  exact af (by simp)
 ·have h1:(idx h.Txns (t:Int)).Status=1:=Decidable.of_not_not h1
  rw [if_pos h1,if_pos h1]
  generalize hx:(idx h.Txns (t:Int)).Ops=ops at ho ⊢;obtain ⟨a4,hall⟩:=ho;refine bN (k0:=0) ops.length (fun k s=>s.1=f.asks++vT ops (t:Int) k∧s.2.1=f.bad++wQ ops (t:Int) k∧(∀ key,mat s.2.2.1 key=vR ops key k)∧s.2.2.2=(k:Int)) (Nat.zero_le _)
   ⟨by simp [vT],by simp [wQ],fun key=>rfl,rfl⟩ ?_
  rintro k ⟨l1,l2,m,x⟩ hk ⟨e1,e2,hm,e4⟩
  dsimp only at e1 e2 hm e4
  subst e1 e2 e4;unfold pu lC lw ik
  simp only [cond_true,cond_false,hx,hm]
  have hw:w64 ((k:Int) + 1)=((k + 1:Nat):Int):=aQ (by omega);have l1:=ED (ops:=ops) (t:=(t:Int)) (k:=k);have l2:=Dn (ops:=ops) (t:=(t:Int)) (k:=k);have l3:=zo (ops:=ops) (key:=(idx ops (k:Int)).Key) (p:=k);have hn:∀ key,k < ops.length→vR ops key (k + 1)=_:=fun key hk=>zY hk
  rw [hw]
  refine ai (fun a3 => ?_) (fun a3 => ?_)
  ·have a1:k < ops.length:=by omega
   obtain ⟨o1,o2,o3⟩:=hall k a1;have a2:w64 ((idx ops (k:Int)).Kind - 4)=(idx ops (k:Int)).Kind - 4:=bW (by omega) (by omega);have hbf:=Bt ((idx ops (k:Int)).Kind - 4) (s:=(idx ops (k:Int)).Vals) (args:=vR ops (idx ops (k:Int)).Key k) (by omega) (by omega);have hcl:fP (idx ops (k:Int)).Vals=some (idx ops (k:Int)).Vals:=iL _ (by omega)
   rw [a2,hbf,hcl]
   simp only [List.length_append]
   have hA:=Dm (ops:=ops) (t:=(t:Int)) (k:=k);have hB:=Bz (ops:=ops) (t:=(t:Int)) (k:=k);have hnil:∀ l:List Int,l=[]↔l.length=0:=fun l=>List.length_eq_zero_iff.symm;unfold Dl at hA;unfold EC at hB
   dsimp only at hA hB
   repeat' (first | contradiction | with_reducible refine ai (fun hq => ?_) (fun hq => ?_) | with_reducible refine ag (by first | omega | grind [bW]) ?_ | with_reducible refine au ?_ | with_reducible refine cZ ?_ | with_reducible refine dH ?_ | with_reducible refine dF ?_ | with_reducible refine dI ?_ | with_reducible refine af ?_)
   all_goals (refine ⟨a1,?_,?_,fun key => ?_,rfl⟩ <;> dsimp only)
   all_goals grind [qp]
  ·have:k=ops.length:=by omega
   subst this
   repeat' (first | contradiction | with_reducible refine ai (fun hq => ?_) (fun hq => ?_) | with_reducible refine ag (by first | omega | grind [bW]) ?_ | with_reducible refine au ?_ | with_reducible refine cZ ?_ | with_reducible refine dH ?_ | with_reducible refine dF ?_ | with_reducible refine dI ?_ | with_reducible refine af ?_)
   rfl
end Go.Proofs.YtfpeabnehpclnaaGreatDoorT
namespace Go.Proofs.YtfpeabnehpclnaaGreatDoorT
open Go Go.Proofs Go.Proofs.YtfpeabnehpclnaaGreatDoorE
set_option linter.unusedVariables false
set_option linter.unusedSimpArgs false
theorem FO {a b:List Int} (ha:a.length < 2 ^ 62):dV a b=some (decide (a=b)):=by
 refine yC.1 ?_;unfold dV;refine ai (fun h => ?_) (fun h => ?_)
 ·refine af ?_;have:a≠b:=by rintro rfl; exact h rfl
  simp [this]
 ·have hl:a.length=b.length:=by grind
  refine oW a.length (fun j=>idx a (j:Int)=idx b (j:Int)) ?_;intro k hk hJ;have hw:w64 ((k:Int) + 1)=((k + 1:Nat):Int):=aQ (by omega);have hx:(∀ j:Nat,j < a.length→idx a (j:Int)=idx b (j:Int))→a=b:=fun h=>Jr hl h;unfold lU
  dsimp only
  rw [hw]
  repeat' (first | contradiction | with_reducible refine ai (fun hq => ?_) (fun hq => ?_) | with_reducible refine ag (by first | omega | grind [bW]) ?_ | with_reducible refine au ?_ | with_reducible refine cZ ?_ | with_reducible refine dH ?_ | with_reducible refine dF ?_ | with_reducible refine dI ?_ | with_reducible refine af ?_)
  ·show false=true↔a=b
   grind
  ·exact ⟨rfl,by omega,by grind⟩
  ·show true=true↔a=b
   grind
end Go.Proofs.YtfpeabnehpclnaaGreatDoorT
namespace Go.Proofs.YtfpeabnehpclnaaGreatDoorT
open Go Go.Proofs Go.Proofs.YtfpeabnehpclnaaGreatDoorE
set_option linter.unusedVariables false
set_option linter.unusedSimpArgs false
abbrev OG (y:Op):Prop:=((Lit.int .i64 (y).Kind).wf=true)∧((Lit.int .i64 (y).Key).wf=true)∧((Lit.int .i64 (y).Arg).wf=true)∧(True)∧((∀ z ∈ (y).Vals,(Lit.int .i64 z).wf=true)∧((y).Vals).length * 8≤140737488351232)
abbrev TG (y:Txn):Prop:=((Lit.int .i64 (y).Proc).wf=true)∧((Lit.int .i64 (y).Status).wf=true)∧((Lit.int .i64 (y).From).wf=true)∧((Lit.int .i64 (y).To).wf=true)∧((∀ z ∈ (y).Ops,OG z)∧((y).Ops).length * 56≤140737488351232)
abbrev HG (K:ByteArray→Prop) (x:History):Prop:=((∀ y ∈ (x).Keys,K y)∧((x).Keys).length * 16≤140737488351232)∧((∀ y ∈ (x).Txns,TG y)∧((x).Txns).length * 56≤140737488351232)
theorem HG.small {K:ByteArray→Prop} {h:History} (g:HG K h):qE h :=
 ⟨g.1.2,g.2.2,zI.2 fun t ht=>⟨(g.2.1 t ht).2.2.2.2.2,zI.2 fun o ho=>((g.2.1 t ht).2.2.2.2.1 o ho).2.2.2.2.2⟩⟩
theorem GV {h:History} {t:Nat} (ho:NU (idx h.Txns (t:Int)).Ops):(xz h (t:Int)).length≤16∧(zZ h (t:Int)).length≤16∧wF (xz h (t:Int)) (fun x=>x.Base.length < 2 ^ 62):=by
 have h1:=ED (ops:=(idx h.Txns (t:Int)).Ops) (t:=(t:Int)) (k:=(idx h.Txns (t:Int)).Ops.length);have h2:=Dn (ops:=(idx h.Txns (t:Int)).Ops) (t:=(t:Int)) (k:=(idx h.Txns (t:Int)).Ops.length);have h3:=ho.1;refine ⟨?_,?_,?_⟩
 ·unfold xz; split
  ·omega
  ·simp
 ·unfold zZ; split
  ·omega
  ·simp
 ·rw [zI]
  intro x hx;unfold xz at hx
  split at hx
  ·unfold vT at hx
   rw [List.mem_flatMap] at hx
   obtain ⟨p,hp,hx⟩:=hx;have hp:p < _:=List.mem_range.1 hp;have hv:=(ho.2 p hp).2.2;have hb:=GQ ((idx (idx h.Txns (t:Int)).Ops (p:Int)).Kind - 4) (idx (idx h.Txns (t:Int)).Ops (p:Int)).Vals (vR (idx h.Txns (t:Int)).Ops (idx (idx h.Txns (t:Int)).Ops (p:Int)).Key p);unfold Dl at hx
   dsimp only at hx
   split at hx
   ·simp at hx
   ·split at hx
    ·simp at hx; subst hx; dsimp only; omega
    ·split at hx
     ·simp at hx; subst hx; dsimp only; omega
     ·simp at hx
  ·simp at hx
end Go.Proofs.YtfpeabnehpclnaaGreatDoorT
namespace Go.Proofs.YtfpeabnehpclnaaGreatDoorT
open Go Go.Proofs Go.Proofs.YtfpeabnehpclnaaGreatDoorE
set_option linter.unusedVariables false
set_option linter.unusedSimpArgs false
def aU (h:History) (k:Nat):List Ask:=(List.range k).flatMap (fun t=>xz h ((t:Nat):Int))
def jK (h:History) (k:Nat):List pq:=(List.range k).flatMap (fun t=>zZ h ((t:Nat):Int))
theorem BA {h:History} {k:Nat}:aU h (k + 1)=aU h k++xz h (k:Int):=by
 unfold aU; rw [List.range_succ,List.flatMap_append]; simp
theorem Az {h:History} {k:Nat}:jK h (k + 1)=jK h k++zZ h (k:Int):=by
 unfold jK; rw [List.range_succ,List.flatMap_append]; simp
theorem qM {h:History} (hS:dB h):∀ k:Nat,k≤h.Txns.length→(aU h k).length≤16 * k∧(jK h k).length≤16 * k∧wF (aU h k) (fun x=>x.Base.length < 2 ^ 62):=by
 intro k
 induction k with
 | zero=>intro _; simp [aU,jK,wF]
 | succ k ih =>
  intro hk;obtain ⟨i1,i2,i3⟩:=ih (by omega);obtain ⟨b1,b2,b3⟩:=GV (hS.txn k (by omega)).ops
  rw [BA,Az,List.length_append,List.length_append]
  refine ⟨by omega,by omega,?_⟩
  rw [zI] at i3 b3 ⊢
  intro x hx;rcases List.mem_append.1 hx with hx | hx
  ·exact i3 x hx
  ·exact b3 x hx
theorem zq {h:History} (hs:qE h) (hS:dB h) (hc:az h=some 0):kF h=some (⟨aU h h.Txns.length,jK h h.Txns.length⟩,0):=by
 have a3:=hS.len;refine eY.1 ?_;unfold kF;refine aZ hc ?_
 rw [bne_self_eq_false,cond_false]
 refine bN (k0:=0) h.Txns.length (fun k s=>s=(aU h k,jK h k,(k:Int))) (Nat.zero_le _) rfl ?_;rintro k s hk rfl;have hw:w64 ((k:Int) + 1)=((k + 1:Nat):Int):=aQ (by omega);obtain ⟨i1,i2,i3⟩:=qM hS k hk;unfold xX
 dsimp only
 refine ai (fun a2 => ?_) (fun a2 => ?_)
 ·have a1:k < h.Txns.length:=by omega
  refine bU (MM a1 (hS.txn k a1).ops (by dsimp only; omega) (by dsimp only; omega)) (fun r hr => ?_);subst hr;refine af ⟨a1,?_⟩
  dsimp only
  rw [hw,BA,Az]
 ·have:k=h.Txns.length:=by omega
  subst this;exact au (af rfl)
end Go.Proofs.YtfpeabnehpclnaaGreatDoorT
