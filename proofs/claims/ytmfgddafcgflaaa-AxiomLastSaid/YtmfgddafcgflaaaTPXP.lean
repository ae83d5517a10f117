import Derived.Test.YtmfgddafcgflaaaTD
import Derived.Test.YtmfgddafcgflaaaI
import Derived.Test.YtmfgddafcgflaaaTF
namespace Go.Proofs.YtmfgddafcgflaaaT
open Go Go.Proofs Go.Proofs.YtmfgddafcgflaaaE
set_option linter.unusedVariables false
set_option linter.unusedSimpArgs false
structure az where
 keys:List ByteArray
 types:List Int
 wrote:List (List Int)
 incs:List Int
 last_:List Int
 deriving Inhabited
noncomputable def nG (a0:List ByteArray) (a1:ByteArray):Int→Option (Int ⊕ Int)
 | a2=>bif decide (a2 < (a0.length:Int)) then must (0≤a2∧a2 < (a0.length:Int)) (bif sEq (idx a0 a2) a1 then out (some a2) else (some (.inl (w64 (a2 + 1))))) else (out (some (-1)))
noncomputable def dS (a0:List ByteArray) (a1:ByteArray):Option Int :=
 iter (nG a0 a1) 0
noncomputable def ib (a2:Int) (a1:Bool):Option (Int ⊕ Bool) :=
 bif a1 then out (some false) else (some (.inl (w64 (a2 + 1))))
noncomputable def mQ (a0:List ByteArray):Int→Option (Int ⊕ Bool)
 | a1=>bif decide (a1 < (a0.length:Int)) then must (0≤a1∧a1 < (a0.length:Int)) (bif decide (((idx a0 a1).size:Int) < 1) then ib a1 true else (bif decide (((idx a0 a1).size:Int) > 32) then ib a1 true else (must (0≤(0:Int)∧(0:Int)≤a1∧a1≤(a0.length:Int)) ((dS (bV a0 (0:Int) a1) (idx a0 a1)).bind fun a2=>ib a1 (decide (a2 ≥ 0)))))) else (out (some (decide ((a0.length:Int)≤32))))
noncomputable def cK (a0:List ByteArray):Option Bool :=
 iter (mQ a0) 0
noncomputable def gF (a1:Int) (a2:Bool):Option (Int ⊕ Bool) :=
 bif a2 then out (some false) else (some (.inl (w64 (a1 + 1))))
noncomputable def jB (a0:List Txn) (a1:Int):Int→Option (Int ⊕ Bool)
 | a2=>bif decide (a2 < a1) then must (0≤a2∧a2 < (a0.length:Int)) (bif ((idx a0 a2).Proc == (idx a0 a1).Proc) then bif ((idx a0 a2).To == (-1)) then gF a2 true else (gF a2 (decide ((idx a0 a2).To ≥ (idx a0 a1).From))) else (gF a2 false)) else (out (some true))
noncomputable def jC (a0:List Txn) (a1:Int) (a2:Bool):Option Bool :=
 bif a2 then some false else (iter (jB a0 a1) 0)
noncomputable def cz (a0:List Txn) (a1:Int) (a2:Bool):Option Bool :=
 bif a2 then some false else (bif decide (a1 > 0) then must (0≤w64 (a1 - 1)∧w64 (a1 - 1) < (a0.length:Int)) (jC a0 a1 (decide ((idx a0 a1).From≤(idx a0 (w64 (a1 - 1))).From))) else (jC a0 a1 false))
noncomputable def aI (a0:List Txn) (a1:Int):Option Bool :=
 must (0≤a1∧a1 < (a0.length:Int)) (bif decide ((idx a0 a1).Status < 1) then cz a0 a1 true else (bif decide ((idx a0 a1).Status > 3) then cz a0 a1 true else (bif decide ((idx a0 a1).From < 0) then cz a0 a1 true else (bif ((idx a0 a1).To != (-1)) then bif decide ((idx a0 a1).To≤(idx a0 a1).From) then cz a0 a1 true else (bif ((idx a0 a1).To == (-1)) then cz a0 a1 ((idx a0 a1).Status != 3) else (cz a0 a1 false)) else (bif ((idx a0 a1).To == (-1)) then cz a0 a1 ((idx a0 a1).Status != 3) else (cz a0 a1 false))))))
noncomputable def iQ (a0:Call):Option Bool :=
 some (decide ((a0.Vals.length:Int)≤64))
noncomputable def kz (a0:Call):Int→Option (Int ⊕ Bool)
 | a1=>bif decide (a1 < (a0.Vals.length:Int)) then must (0≤a1∧a1 < (a0.Vals.length:Int)) (must (0≤w64 (a1 - 1)∧w64 (a1 - 1) < (a0.Vals.length:Int)) (bif decide (idx a0.Vals a1≤idx a0.Vals (w64 (a1 - 1))) then out (some false) else (some (.inl (w64 (a1 + 1)))))) else (out (iQ a0))
noncomputable def fH (a0:Call) (a1:Bool):Option Bool :=
 bif a1 then some false else (bif (a0.Kind == 5) then some (decide ((a0.Vals.length:Int)≤1)) else (bif (a0.Kind == 8) then bif !a0.Got then some true else (some ((a0.Vals.length:Int) == 1)) else (bif (a0.Kind == 7) then iter (kz a0) 1 else (iQ a0))))
noncomputable def fI (a0:Call) (a1:Int) (a2:Bool):Option Bool :=
 bif a2 then some false else (bif decide (a0.Kind≤4) then bif !a0.Got then bif ((a0.Vals.length:Int) == 0) then bif (a0.Kind != 4) then some true else (bif decide (a0.Arg ≥ (-1048576)) then some (decide (a0.Arg≤1048576)) else (some false)) else (some false) else (some false) else (bif (a0.Arg != 0) then fH a0 true else (bif (a0.Got != (a1 == 1)) then fH a0 true else (bif !a0.Got then fH a0 (decide ((a0.Vals.length:Int) > 0)) else (fH a0 false)))))
noncomputable def aP (a0:Call) (a1:Int):Option Bool :=
 bif decide (a0.Kind < 1) then fI a0 a1 true else (bif decide (a0.Kind > 8) then fI a0 a1 true else (bif decide ((a0.Key.size:Int) < 1) then fI a0 a1 true else (fI a0 a1 (decide ((a0.Key.size:Int) > 32)))))
noncomputable def jP (a0:Event):Int→Option (Int ⊕ Bool)
 | a1=>bif decide (a1 < (a0.Calls.length:Int)) then must (0≤a1∧a1 < (a0.Calls.length:Int)) ((aP (idx a0.Calls a1) a0.Kind).bind fun a2=>bif !a2 then out (some false) else (some (.inl (w64 (a1 + 1))))) else (out (some true))
noncomputable def ig (a0:Event) (b9:Bool):Option Bool :=
 bif b9 then some false else (iter (jP a0) 0)
noncomputable def bP (a0:Event):Option Bool :=
 bif decide (a0.Kind < 0) then ig a0 true else (bif decide (a0.Kind > 3) then ig a0 true else (ig a0 (decide ((a0.Calls.length:Int) > 16))))
noncomputable def mR (a0:List Event):Int→Option (Int ⊕ Int)
 | a1=>bif decide (a1 < (a0.length:Int)) then must (0≤a1∧a1 < (a0.length:Int)) ((bP (idx a0 a1)).bind fun a2=>bif !a2 then out (some 1) else (some (.inl (w64 (a1 + 1))))) else (out (some 0))
noncomputable def fC (a0:List Event):Option Int :=
 bif decide ((a0.length:Int) > 256) then some 1 else (iter (mR a0) 0)
noncomputable def nV (a0:Int):Option Int :=
 some (w64 (((w64 (a0 - 1)).tmod (4:Int)) + 1))
noncomputable def eF (a2:List ByteArray) (a1:List Int) (a5:List (List Int)) (a3:List Int) (a4:List Int):Option (Int×az) :=
 some (0,(⟨a2,a1,a5,a3,a4⟩:az))
noncomputable def eG (a2:Int) (a6:List ByteArray) (a5:List Int) (a3:List Int) (a4:List Int) (a1:Int) (a7:List (List Int)) (a8:Bool):Option (Int×az) :=
 bif a8 then must (0≤a1∧a1 < (a4.length:Int)) (must (0≤a1∧a1 < (a3.length:Int)) (bif decide (idx (a3.set a1.toNat (w64 ((idx a3 a1) + 1))) a1 > 8) then some (51,(⟨a6,a5,a7,a3.set a1.toNat (w64 ((idx a3 a1) + 1)),a4.set a1.toNat a2⟩:az)) else (eF a6 a5 a7 (a3.set a1.toNat (w64 ((idx a3 a1) + 1))) (a4.set a1.toNat a2)))) else (eF a6 a5 a7 a3 a4)
noncomputable def dM (a1:Call) (a2:Int) (a6:List ByteArray) (a5:List Int) (a7:List Int) (a4:List Int) (a3:Int) (a8:List (List Int)):Option (Int×az) :=
 bif (a1.Kind == 4) then must (0≤a3∧a3 < (a4.length:Int)) (eG a2 a6 a5 a7 a4 a3 a8 (idx a4 a3 != a2)) else (eG a2 a6 a5 a7 a4 a3 a8 false)
noncomputable def gI (a1:Call) (a2:Int) (a8:List ByteArray) (a7:List Int) (a4:List (List Int)) (a9:List Int) (a6:List Int) (a3:Int):Int→Option (Int ⊕ (Int×az))
 | a5=>must (0≤a3∧a3 < (a4.length:Int)) (bif decide (a5 < ((idx a4 a3).length:Int)) then must (0≤a5∧a5 < ((idx a4 a3).length:Int)) (bif (idx (idx a4 a3) a5 == a1.Arg) then out (some (3,(⟨a8,a7,a4,a9,a6⟩:az))) else (some (.inl (w64 (a5 + 1))))) else (must (((((idx a4 a3).length) + 1) + (((idx a4 a3).length) + 1) / 4 + 192) * 8≤281474976710656∧((idx a4 a3).length) + 1≤9223372036854775807) (out (dM a1 a2 a8 a7 a9 a6 a3 (a4.set a3.toNat ((idx a4 a3)++([a1.Arg]:List Int)))))))
noncomputable def gJ (a1:Call) (a2:Int) (a5:List ByteArray) (a4:List Int) (a6:List (List Int)) (a7:List Int) (a3:List Int) (a8:Int) (a9:Bool):Option (Int×az) :=
 bif a9 then iter (gI a1 a2 a5 a4 a6 a7 a3 a8) 0 else (dM a1 a2 a5 a4 a7 a3 a8 a6)
noncomputable def dC (a1:Call) (a2:Int) (a6:List ByteArray) (a3:List Int) (a7:List (List Int)) (a8:List Int) (a5:List Int) (a4:Int):Option (Int×az) :=
 must (0≤a4∧a4 < (a3.length:Int)) ((nV a1.Kind).bind fun a9=>bif (idx a3 a4 != a9) then some (50,(⟨a6,a3,a7,a8,a5⟩:az)) else (bif (a1.Kind == 2) then gJ a1 a2 a6 a3 a7 a8 a5 a4 true else (gJ a1 a2 a6 a3 a7 a8 a5 a4 (a1.Kind == 3))))
noncomputable def gL (a0:az) (a1:Call) (a2:Int) (a3:List Int):Option (Int×az) :=
 must (((a0.wrote.length + 1) + (a0.wrote.length + 1) / 4 + 192) * 24≤281474976710656∧a0.wrote.length + 1≤9223372036854775807) (must (((a0.incs.length + 1) + (a0.incs.length + 1) / 4 + 192) * 8≤281474976710656∧a0.incs.length + 1≤9223372036854775807) (must (((a0.last_.length + 1) + (a0.last_.length + 1) / 4 + 192) * 8≤281474976710656∧a0.last_.length + 1≤9223372036854775807) (dC a1 a2 (a0.keys++([a1.Key]:List ByteArray)) a3 (a0.wrote++([([]:List Int)]:List (List Int))) (a0.incs++([0]:List Int)) (a0.last_++([(-1)]:List Int)) (a0.keys.length:Int))))
noncomputable def gM (a0:az) (a1:Call) (a2:Int):Option (Int×az) :=
 (nV a1.Kind).bind fun a3=>must (((a0.types.length + 1) + (a0.types.length + 1) / 4 + 192) * 8≤281474976710656∧a0.types.length + 1≤9223372036854775807) (gL a0 a1 a2 (a0.types++([a3]:List Int)))
noncomputable def ag (a0:az) (a1:Call) (a2:Int):Option (Int×az) :=
 (dS a0.keys a1.Key).bind fun y5=>bif decide (y5 < 0) then bif decide ((a0.keys.length:Int) ≥ 32) then some (2,a0) else (must (((a0.keys.length + 1) + (a0.keys.length + 1) / 4 + 192) * 16≤281474976710656∧a0.keys.length + 1≤9223372036854775807) (gM a0 a1 a2)) else (dC a1 a2 a0.keys a0.types a0.wrote a0.incs a0.last_ y5)
noncomputable def mU (a0:History) (a2:Int) (a3:List Call) (a1:Int):Option ((List Call×Int) ⊕ ((List ByteArray×List Int×(List (List Int))×List Int×List Int×Int) ⊕ Int)) :=
 some (.inl (a3++([(⟨(idx ((idx a0.Txns a2).Ops) a1).Kind,idx a0.Keys ((idx ((idx a0.Txns a2).Ops) a1).Key),(idx ((idx a0.Txns a2).Ops) a1).Arg,(idx ((idx a0.Txns a2).Ops) a1).Got,(idx ((idx a0.Txns a2).Ops) a1).Vals⟩:Call)]:List Call),w64 (a1 + 1)))
noncomputable def jQ (a0:History) (a3:Int) (a1:List Call) (a2:Int) (a4:Bool):Option ((List Call×Int) ⊕ ((List ByteArray×List Int×(List (List Int))×List Int×List Int×Int) ⊕ Int)) :=
 bif a4 then out (out (some 1)) else (must (0≤(idx ((idx a0.Txns a3).Ops) a2).Key∧(idx ((idx a0.Txns a3).Ops) a2).Key < (a0.Keys.length:Int)) (must (((a1.length + 1) + (a1.length + 1) / 4 + 192) * 64≤281474976710656∧a1.length + 1≤9223372036854775807) (mU a0 a3 a1 a2)))
noncomputable def dU (a8:Int) (a3:List Call):(List ByteArray×List Int×(List (List Int))×List Int×List Int×Int)→Option ((List ByteArray×List Int×(List (List Int))×List Int×List Int×Int) ⊕ ((List Call×Int) ⊕ ((List ByteArray×List Int×(List (List Int))×List Int×List Int×Int) ⊕ Int)))
 | (a7,a4,a9,a6,a5,a2)=>bif decide (a2 < (a3.length:Int)) then must (0≤a2∧a2 < (a3.length:Int)) ((ag (⟨a7,a4,a9,a6,a5⟩:az) (idx a3 a2) a8).bind fun a1=>bif (a1.1 != 0) then out (out (out (some 1))) else (some (.inl (a1.2.keys,a1.2.types,a1.2.wrote,a1.2.incs,a1.2.last_,w64 (a2 + 1))))) else (out (out (some (.inl (a7,a4,a9,a6,a5,w64 (a8 + 1))))))
noncomputable def dV (a0:History) (a4:List ByteArray) (a8:List Int) (a7:List (List Int)) (a9:List Int) (a5:List Int) (a1:Int):(List Call×Int)→Option ((List Call×Int) ⊕ ((List ByteArray×List Int×(List (List Int))×List Int×List Int×Int) ⊕ Int))
 | (a3,a2)=>bif decide (a2 < (((idx a0.Txns a1).Ops).length:Int)) then must (0≤a2∧a2 < (((idx a0.Txns a1).Ops).length:Int)) (bif decide ((idx ((idx a0.Txns a1).Ops) a2).Key < 0) then jQ a0 a1 a3 a2 true else (jQ a0 a1 a3 a2 (decide ((idx ((idx a0.Txns a1).Ops) a2).Key ≥ (a0.Keys.length:Int))))) else ((fC ([(⟨0,(idx a0.Txns a1).Status,a3⟩:Event)]:List Event)).bind fun a6=>bif (a6 != 0) then out (out (some 1)) else (iter (dU a1 a3) (a4,a8,a7,a9,a5,0)))
noncomputable def ik (a0:History) (a1:List ByteArray) (a4:List Int) (a3:List (List Int)) (a6:List Int) (a2:List Int) (a5:Int) (a7:Bool):Option ((List ByteArray×List Int×(List (List Int))×List Int×List Int×Int) ⊕ Int) :=
 bif a7 then out (some 1) else (iter (dV a0 a1 a4 a3 a6 a2 a5) ([],0))
noncomputable def iq (a0:History):(List ByteArray×List Int×(List (List Int))×List Int×List Int×Int)→Option ((List ByteArray×List Int×(List (List Int))×List Int×List Int×Int) ⊕ Int)
 | (a2,a5,a4,a6,a3,a1)=>bif decide (a1 < (a0.Txns.length:Int)) then must (0≤a1∧a1 < (a0.Txns.length:Int)) ((aI a0.Txns a1).bind fun a7=>bif !a7 then ik a0 a2 a5 a4 a6 a3 a1 true else (ik a0 a2 a5 a4 a6 a3 a1 (decide ((((idx a0.Txns a1).Ops).length:Int) > 16)))) else (out (some 0))
noncomputable def fu (a0:History) (a1:Bool):Option Int :=
 bif a1 then some 1 else (iter (iq a0) ([],[],[],[],[],0))
noncomputable def ak (a0:History):Option Int :=
 (cK a0.Keys).bind fun a1=>bif !a1 then fu a0 true else (fu a0 (decide ((a0.Txns.length:Int) > 32)))
noncomputable def lg (a0:List Int) (a1:List Int):Int→Option (Int ⊕ Bool)
 | a2=>bif decide (a2 < (a0.length:Int)) then must (0≤a2∧a2 < (a0.length:Int)) (must (0≤a2∧a2 < (a1.length:Int)) (bif (idx a0 a2 != idx a1 a2) then out (some false) else (some (.inl (w64 (a2 + 1)))))) else (out (some true))
noncomputable def fw (a0:List Int) (a1:List Int):Option Bool :=
 bif ((a0.length:Int) != (a1.length:Int)) then some false else (iter (lg a0 a1) 0)
end Go.Proofs.YtmfgddafcgflaaaT
namespace Go.Proofs.YtmfgddafcgflaaaT
open Go Go.Proofs Go.Proofs.YtmfgddafcgflaaaE
set_option linter.unusedVariables false
set_option linter.unusedSimpArgs false
def Upm {S Ω:Type} (n k:Nat) (J:Nat→S→Prop) (Q:Ω→Prop):S ⊕ Ω→Prop
 | .inl s'=>k < n∧J (k + 1) s'
 | .inr o=>Q o
theorem df {S Ω:Type} {step:S→Option (S ⊕ Ω)} {Q:Ω→Prop} (n:Nat) (J:Nat→S→Prop) {s0:S} {k0:Nat} (a1:k0≤n) (h0:J k0 s0)
  (hs:∀ (k:Nat) (s:S),k≤n→J k s→Tri (step s) (Upm n k J Q)):Tri (iter step s0) Q:=by
 generalize hd:n - k0=d
 induction d using Nat.strongRecOn generalizing k0 s0 with
 | ind d ih =>
  obtain ⟨x,hx,hr⟩:=hs k0 s0 a1 h0
  rw [wT,hx]
  cases x with
  | inl s'=>exact ih (n - (k0 + 1)) (by have:=hr.1; omega) (k0:=k0 + 1) (by have:=hr.1; omega) hr.2 rfl
  | inr o=>exact ⟨o,rfl,hr⟩
def Asc (s:List Int):Prop:=∀ k:Nat,k + 1 < s.length→idx s (k:Int) < idx s ((k + 1:Nat):Int)
instance (s:List Int):Decidable (Asc s):=by
 unfold Asc;exact decidable_of_iff (∀ k,k < s.length→k + 1 < s.length→idx s (k:Int) < idx s ((k + 1:Nat):Int)) ⟨fun h k hk=>h k (by omega) hk,fun h k _ hk=>h k hk⟩
theorem jc {s:List Int} {k:Nat} (h:k < s.length):idx s (k:Int)=s[k]:=dE rfl h
theorem sG {s:List Int}:Asc s↔s.Pairwise (· < ·):=by
 rw [List.pairwise_iff_getElem]
 constructor
 ·intro h i j hi hj hij
  induction j with
  | zero=>omega
  | succ j ih =>
   have h1:=h j hj
   rw [jc (by omega),jc hj] at h1
   rcases Nat.lt_or_ge i j with h2 | h2
   ·exact Int.lt_trans (ih (by omega) h2) h1
   ·have:i=j:=by omega
    subst this;exact h1
 ·intro h k hk
  rw [jc (by omega),jc hk]
  exact h k (k + 1) (by omega) hk (by omega)
def SOk (t:Int) (s:List Int):Bool:=(t == 1 && decide (s.length≤1)) || (t == 2 && decide (s.length≤64)) || (t == 3 && decide (Asc s) && decide (s.length≤64)) || (t == 4 && s.length == 1)
def chk (t:Int) (s:List Int):Int:=if 1≤t∧t≤4 then (if SOk t s then 0 else 80) else 1
theorem mW {k:Nat} (h:k < 2 ^ 62) (h1:1≤k):w64 ((k:Int) - 1)=((k - 1:Nat):Int):=by
 rw [rW (by omega) (by omega)]; omega
theorem wV {s:List Int} (hs:s.length < 2 ^ 62):dP () s=some (decide (Asc s) && decide (s.length≤64)):=by
 unfold dP;refine kC.1 ?_;refine df (k0:=1) (s.length + 1) (fun k x=>x=(k:Int)∧1≤k∧∀ j:Nat,j + 1 < k→j + 1 < s.length→idx s (j:Int) < idx s ((j + 1:Nat):Int)) (by omega) ⟨rfl,Nat.le_refl _,fun j h=>by omega⟩ ?_
 rintro k x hk ⟨rfl,a1,hJ⟩;unfold kW;refine mM (fun h => ?_) (fun h => ?_)
 ·have h:(k:Int) < s.length:=of_decide_eq_true h;have e:=mW (k:=k) (by omega) a1;refine ah (by rw [e]; omega) (ah (by omega) (mM (fun h2 => ?_) (fun h2 => ?_)))
  ·have h2:idx s (k:Int)≤idx s (w64 ((k:Int) - 1)):=of_decide_eq_true h2
   rw [e] at h2
   refine aA (af ?_)
   show false=_
   have hn:¬ Asc s:=by
    intro hA;have:=hA (k - 1) (by omega)
    rw [show k - 1 + 1=k by omega] at this
    omega
   simp [hn]
  ·have h2:¬ idx s (k:Int)≤idx s (w64 ((k:Int) - 1)):=of_decide_eq_false h2
   rw [e] at h2
   refine ⟨_,rfl,by omega,bq (by omega),by omega,fun j hj hl => ?_⟩
   rcases Nat.lt_or_ge (j + 1) k with h3 | h3
   ·exact hJ j h3 hl
   ·have:j=k - 1:=by omega
    subst this
    rw [show k - 1 + 1=k by omega]
    omega
 ·have h:¬ (k:Int) < s.length:=of_decide_eq_false h;refine aA (af ?_)
  show decide ((s.length:Int)≤64)=_
  have hA:Asc s:=fun j hj=>hJ j (by omega) hj
  simp only [hA,decide_true,Bool.true_and]
  congr 1
  exact propext ⟨fun h=>by omega,fun h=>by omega⟩
theorem Cu {t:Int} {s:List Int} (h:1≤t∧t≤4):chk t s=if SOk t s then 0 else 80:=if_pos h
theorem four {t:Int} (h:1≤t∧t≤4):t=1∨t=2∨t=3∨t=4:=by omega
theorem Ig {s:List Int} {n:Nat}:decide ((s.length:Int)≤(n:Int))=decide (s.length≤n):=by
 congr 1
 exact propext ⟨fun h=>by omega,fun h=>by omega⟩
theorem yG {t:Int} (h:¬ (1≤t∧t≤4)):gV t=some (-1):=by
 have e1:(t == 1)=false:=by rw [beq_eq_false_iff_ne]; omega
 have e2:(t == 2)=false:=by rw [beq_eq_false_iff_ne]; omega
 have e3:(t == 3)=false:=by rw [beq_eq_false_iff_ne]; omega
 have e4:(t == 4)=false:=by rw [beq_eq_false_iff_ne]; omega
 simp [gV,e1,e2,e3,e4]
theorem vz (t:Int) {s:List Int} (hs:s.length < 2 ^ 62):gX t s=some (chk t s):=by
 by_cases ht:1≤t∧t≤4
 ·rw [Cu ht]
  rcases four ht with rfl | rfl | rfl | rfl
  ·have:=Ig (s:=s) (n:=1)
   simp only [Int.cast_ofNat_Int] at this
   simp [gX,gV,gW,SOk]
   by_cases h:s.length≤1
   ·have h':(s.length:Int)≤1:=by omega
    simp [h,h']
   ·have h':¬ (s.length:Int)≤1:=by omega
    simp [h,h']
  ·simp [gX,gV,jV,SOk]
   by_cases h:s.length≤64
   ·have h':(s.length:Int)≤64:=by omega
    simp [h,h']
   ·have h':¬ (s.length:Int)≤64:=by omega
    simp [h,h']
  ·simp [gX,gV,wV hs,SOk]
   by_cases h:Asc s <;> by_cases h':s.length≤64 <;> simp [h,h']
  ·simp [gX,gV,iH,SOk]
   by_cases h:s.length=1
   ·have h':(s.length:Int)=1:=by omega
    simp [h,h']
   ·have h':((s.length:Int) == 1)=false:=by rw [beq_eq_false_iff_ne]; omega
    simp [h,h']
 ·rw [chk,if_neg ht]
  simp [gX,yG ht]
def lb (s:List Int) (a:Int):Nat:=s.findIdx (fun x=>decide (a≤x))
def hit (s:List Int) (a:Int):Bool:=decide (lb s a < s.length) && (idx s (lb s a:Int) == a)
def ins (s:List Int) (a:Int):List Int:=s.take (lb s a)++((if hit s a then [] else [a])++s.drop (lb s a))
theorem Dt (s:List Int) (a:Int):lb s a≤s.length:=List.findIdx_le_length
theorem Ho {s:List Int} {a:Int} {k:Nat} (h:k < lb s a):idx s (k:Int) < a:=by
 have h1:k < s.length:=Nat.lt_of_lt_of_le h (Dt s a)
 rw [jc h1]
 have:=List.not_of_lt_findIdx (p:=fun x=>decide (a≤x)) (xs:=s) h
 simpa using this
theorem Hq {s:List Int} {a:Int} (h:lb s a < s.length):a≤idx s (lb s a:Int):=by
 rw [jc h]
 have:=List.findIdx_getElem (p:=fun x=>decide (a≤x)) (xs:=s) (w:=h);exact of_decide_eq_true this
theorem Gr {s:List Int} {a:Int} {i:Nat} (hi:i≤s.length) (h1:∀ k:Nat,k < i→idx s (k:Int) < a) (h2:i < s.length→a≤idx s (i:Int)):lb s a=i:=by
 rcases Nat.lt_trichotomy (lb s a) i with h | h | h
 ·have:=Hq (s:=s) (a:=a) (by omega);have:=h1 _ h
  omega
 ·exact h
 ·have h3:=Ho h;have:=h2 (by have:=Dt s a; omega)
  omega
theorem Fx {i j:Nat} (hi:i < 2 ^ 62) (hj:j < 2 ^ 62):w64 (ow .u64 (IntKind.wrap .u64 (w64 ((i:Int) + (j:Int)))) (1:Int))=(((i + j) / 2:Nat):Int):=by
 have e1:w64 ((i:Int) + (j:Int))=((i + j:Nat):Int):=by rw [rW (by omega) (by omega)]; omega
 rw [e1,wrap_u64 (by omega),Eh (n:=1) (i:=(1:Int)) rfl (by omega),rW (by omega) (by omega)]
 simp [Nat.shiftRight_eq_div_pow]
theorem Cv (a b:Int):jJ a b=some (decide (a < b)):=by simp [jJ,jh]
theorem zB {s:List Int} (a:Int) (hA:Asc s) (hs:s.length < 2 ^ 62):aV s a=some ((lb s a:Int),hit s a):=by
 unfold aV;refine kC.1 ?_;have hP:=List.pairwise_iff_getElem.1 (sG.1 hA);have hmono:∀ p q:Nat,p≤q→q < s.length→idx s (p:Int)≤idx s (q:Int):=by
  intro p q hpq hq;rcases Nat.lt_or_ge p q with h | h
  ·rw [jc (by omega),jc hq]
   exact Int.le_of_lt (hP p q (by omega) hq h)
  ·have:p=q:=by omega
   subst this;exact Int.le_refl _
 refine uK (fun x:Int×Int=>∃ i j:Nat,x=((i:Int),(j:Int))∧i≤j∧j≤s.length∧(∀ k:Nat,k < i→idx s (k:Int) < a)∧(j < s.length→a≤idx s (j:Int))) (fun x=>x.2.toNat - x.1.toNat)
  ⟨0,s.length,rfl,by omega,by omega,fun k h=>by omega,fun h=>by omega⟩ ?_
 rintro _ ⟨i,j,rfl,hij,hj,h1,h2⟩;unfold fE;refine mM (fun h => ?_) (fun h => ?_)
 ·have h:(i:Int) < j:=of_decide_eq_true h;have e:=Fx (i:=i) (j:=j) (by omega) (by omega)
  rw [e]
  refine ah (by decide) (ah (by omega) ?_)
  rw [Cv]
  show Tri (bif decide _ then _ else _) _
  have hm:(i + j) / 2 < j:=by omega
  have a1:i≤(i + j) / 2:=by omega
  generalize (i + j) / 2=m at hm a1;refine mM (fun h3 => ?_) (fun h3 => ?_)
  ·have h3:idx s (m:Int) < a:=of_decide_eq_true h3;refine ⟨_,rfl,⟨m + 1,j,by rw [bq (by omega)],by omega,hj,fun k hk => ?_,h2⟩,?_⟩
   ·exact Int.lt_of_le_of_lt (hmono k m (by omega) (by omega)) h3
   ·rw [bq (by omega)]; simp only [Int.toNat_natCast]; omega
  ·have h3:¬ idx s (m:Int) < a:=of_decide_eq_false h3;refine ⟨_,rfl,⟨i,m,rfl,a1,by omega,h1,fun _=>by omega⟩,?_⟩
   simp only [Int.toNat_natCast]; omega
 ·have h:¬ (i:Int) < j:=of_decide_eq_false h;have hji:j=i:=by omega
  subst hji;have hl:lb s a=j:=Gr hj h1 h2;refine mM (fun h3 => ?_) (fun h3 => ?_)
  ·have h3:(j:Int) < s.length:=of_decide_eq_true h3;have hlt:j < s.length:=by omega
   refine ah (by omega) (mM (fun h4 => ?_) (fun h4 => ?_))
   ·refine aA (af ?_)
    simp [Rnd,hl,hit,hlt,h4]
   ·simp only [fT,Option.bind_some,bne_self_eq_false,cond_false]
    refine aA (af ?_)
    simp [Rnd,hl,hit,hlt,h4]
  ·have h3:¬ (j:Int) < s.length:=of_decide_eq_false h3;have hlt:¬ j < s.length:=by omega
   refine aA (af ?_)
   simp [Rnd,hl,hit,hlt]
theorem Fy {s:List Int} {a:Int} (hA:Asc s):hit s a=true↔a ∈ s:=by
 unfold hit
 simp only [Bool.and_eq_true,decide_eq_true_eq,beq_iff_eq]
 constructor
 ·rintro ⟨h1,h2⟩
  rw [jc h1] at h2
  exact h2 ▸ List.getElem_mem h1
 ·intro h;obtain ⟨k,hk,e⟩:=List.getElem_of_mem h;have hP:=List.pairwise_iff_getElem.1 (sG.1 hA);have:lb s a=k:=by
   refine Gr (by omega) (fun j hj => ?_) (fun _ => ?_)
   ·rw [jc (by omega),← e]; exact hP j k (by omega) hk hj
   ·rw [jc hk,e]; exact Int.le_refl _
  rw [this]
  exact ⟨hk,by rw [jc hk,e]⟩
def next (t:Int) (s:List Int) (a:Int):List Int:=if t=1 then [a] else if t=2 then s++[a] else if t=3 then ins s a else [w64 (idx s 0 + a)]
def app (t:Int) (s:List Int) (a:Int):List Int×Int :=
 if chk t s≠0 then ([],chk t s) else if (next t s a).length > 64 then ([],2) else (next t s a,0)
theorem GA {t:Int} {s:List Int} (h:chk t s=0):1≤t∧t≤4∧SOk t s=true:=by
 unfold chk at h
 split at h
 ·rename_i h1
  split at h
  ·exact ⟨h1.1,h1.2,by assumption⟩
  ·cases h
 ·cases h
theorem GD {t:Int} {s:List Int} (h:SOk t s=true):s.length≤64:=by
 simp only [SOk,Bool.or_eq_true,Bool.and_eq_true,decide_eq_true_eq,beq_iff_eq] at h
 omega
theorem GG {s:List Int} (h:SOk 3 s=true):Asc s:=by
 simp [SOk] at h
 exact h.1
theorem ok_one {s:List Int} (h:SOk 4 s=true):s.length=1:=by
 simp [SOk] at h
 exact h
def start (t:Int):List Int×Int:=if 1≤t∧t≤4 then (if t=4 then [0] else [],0) else ([],1)
def step (t:Int) (x:List Int×Int) (a:Int):List Int×Int:=if x.2=0 then app t x.1 a else x
theorem Cw {a b:List Int} (ha:a.length < 2 ^ 62):fw a b=some (decide (a=b)):=by
 unfold fw
 by_cases hl:a.length=b.length
 ·have:((a.length:Int) != (b.length:Int))=false:=by simp; omega
  rw [this,cond_false]
  refine kC.1 ?_;refine Ef a.length (fun k=>∀ j:Nat,j < k→idx a (j:Int)=idx b (j:Int)) (fun j h=>by omega) (fun k hk hJ => ?_);unfold lg;refine mM (fun h => ?_) (fun h => ?_)
  ·have h:(k:Int) < a.length:=of_decide_eq_true h;refine ah (by omega) (ah (by omega) (mM (fun h2 => ?_) (fun h2 => ?_)))
   ·have h2:idx a (k:Int)≠idx b (k:Int):=by simpa using h2
    refine aA (af ?_)
    show false=_
    have:a≠b:=fun e=>h2 (by rw [e])
    simp [this]
   ·have h2:idx a (k:Int)=idx b (k:Int):=by simpa using h2
    refine ⟨_,rfl,bq (by omega),by omega,fun j hj => ?_⟩
    rcases Nat.lt_or_ge j k with h3 | h3
    ·exact hJ j h3
    ·have:j=k:=by omega
     subst this;exact h2
  ·have h:¬ (k:Int) < a.length:=of_decide_eq_false h;refine aA (af ?_)
   show true=_
   have:a=b:=Eg hl (fun j hj=>hJ j (by omega))
   simp [this]
 ·have:((a.length:Int) != (b.length:Int))=true:=by simp; omega
  rw [this,cond_true]
  have:a≠b:=fun e=>hl (by rw [e])
  simp [this]
end Go.Proofs.YtmfgddafcgflaaaT
namespace Go.Proofs.YtmfgddafcgflaaaT
open Go Go.Proofs Go.Proofs.YtmfgddafcgflaaaE
set_option linter.unusedVariables false
set_option linter.unusedSimpArgs false
theorem wW {a b:List Int} (ha:a.length < 2 ^ 62):dD a b=some (decide (a=b)):=by
 rw [← Cw ha]
 rfl
def Fit (s args:List Int):Prop:=∀ k:Nat,k < args.length→idx args (k:Int) ∈ s∧idx args (k:Int) ∉ args.take k
instance (s args:List Int):Decidable (Fit s args):=by unfold Fit; infer_instance
def before (t:Int) (s args:List Int):List Int×Bool :=
 if chk t s≠0∨args=[] then ([],false)
 else if t=1 then ([],decide (s.length=1∧idx s 0=idx args ((args.length - 1:Nat):Int)))
 else if t=2 then (if args.length≤s.length∧s.drop (s.length - args.length)=args then (s.take (s.length - args.length),true) else ([],false))
 else if t=3 then (if Fit s args then (s.filter (fun x=>decide (x ∉ args)),true) else ([],false))
 else ([args.foldl (fun v a=>w64 (v - a)) (idx s 0)],true)
theorem yH {s args:List Int} (hs:args.length < 2 ^ 62) (v:Int):iter (eX args) (v,0)=some ([args.foldl (fun v a=>w64 (v - a)) v],true):=by
 refine kC.1 ?_;refine wP args.length (fun k x=>x=(args.take k).foldl (fun v a=>w64 (v - a)) v) rfl (fun k x hk hJ => ?_);subst hJ;unfold eX;refine mM (fun h => ?_) (fun h => ?_)
 ·have h:(k:Int) < args.length:=of_decide_eq_true h;have hks:k < args.length:=by omega
  refine ah (by omega) ⟨_,rfl,bq (by omega),hks,?_⟩
  show _=List.foldl _ _ _
  rw [List.take_add_one,List.getElem?_eq_getElem hks,List.foldl_append,jc hks]
  rfl
 ·have h:¬ (k:Int) < args.length:=of_decide_eq_false h;refine aA (af ?_)
  show ([_],true)=_
  rw [List.take_of_length_le (by omega)]
theorem uw {s args:List Int} (hs:s.length < 2 ^ 43) (ha:args.length < 2 ^ 62):bX () s args=some (if args.length≤s.length∧s.drop (s.length - args.length)=args then (s.take (s.length - args.length),true) else ([],false)):=by
 unfold bX
 by_cases hm:args.length≤s.length
 ·have e1:w64 ((s.length:Int) - (args.length:Int))=((s.length - args.length:Nat):Int):=by rw [rW (by omega) (by omega)]; omega
  have hlt:decide (w64 ((s.length:Int) - (args.length:Int)) < 0)=false:=decide_eq_false (by rw [e1]; omega)
  rw [hlt,cond_false,iC _ (by rw [e1]; omega),e1]
  have hsl:bV s ((s.length - args.length:Nat):Int) (s.length:Int)=s.drop (s.length - args.length):=by simp [bV]
  have a1:bV s (0:Int) ((s.length - args.length:Nat):Int)=s.take (s.length - args.length):=by simp [bV]
  rw [hsl,wW (by simp; omega)]
  simp only [Option.bind_some]
  unfold eQ
  rw [e1,a1,iC _ (by omega)]
  have hc:dJ (s.take (s.length - args.length))=some (s.take (s.length - args.length)):=iC _ (by simp; omega)
  rw [hc]
  by_cases he:s.drop (s.length - args.length)=args
  ·simp [he,hm]
  ·simp [he]
 ·have hlt:decide (w64 ((s.length:Int) - (args.length:Int)) < 0)=true:=decide_eq_true (by rw [rW (by omega) (by omega)]; omega)
  rw [hlt,cond_true,eQ,cond_true,if_neg (fun h=>hm h.1)]
theorem AL {s:List Int} (p:Int→Bool) (h:Asc s):Asc (s.filter p):=sG.2 ((sG.1 h).filter p)
theorem Cx {args:List Int} {k:Nat} (h:k < args.length):args.take (k + 1)=args.take k++[idx args (k:Int)]:=by
 rw [List.take_add_one,List.getElem?_eq_getElem h,jc h]; rfl
theorem zC {s args:List Int} {k:Nat} (h:k < args.length):s.filter (fun x=>decide (x ∉ args.take (k + 1)))=(s.filter (fun x=>decide (x ∉ args.take k))).filter (fun x=>decide (x≠idx args (k:Int))):=by
 rw [List.filter_filter]
 apply List.filter_congr
 intro x _
 rw [Cx h]
 simp only [List.mem_append,List.mem_singleton,not_or]
 rw [Bool.eq_iff_iff]
 simp only [decide_eq_true_eq,Bool.and_eq_true]
 exact ⟨fun h=>⟨h.2,h.1⟩,fun h=>⟨h.2,h.1⟩⟩
theorem AO {l:List Int} {a:Int} (hA:Asc l) (h:hit l a=true):l.take (lb l a)++l.drop (lb l a + 1)=l.filter (fun x=>decide (x≠a)):=by
 have hP:=List.pairwise_iff_getElem.1 (sG.1 hA)
 simp only [hit,Bool.and_eq_true,decide_eq_true_eq,beq_iff_eq] at h
 obtain ⟨h1,h2⟩:=h
 rw [jc h1] at h2
 generalize lb l a=i at h1 h2
 conv=>rhs; rw [← List.take_append_drop i l,List.drop_eq_getElem_cons h1,List.filter_append,List.filter_cons,h2]
 rw [if_neg (by simp)]
 congr 1
 ·symm
  rw [List.filter_eq_self]
  intro x hx;obtain ⟨j,hj,rfl⟩:=List.getElem_of_mem hx;have hj':j < i:=by simp at hj; omega
  have:=hP j i (by omega) h1 hj'
  rw [List.getElem_take,decide_eq_true_eq]
  omega
 ·symm
  rw [List.filter_eq_self]
  intro x hx;obtain ⟨j,hj,rfl⟩:=List.getElem_of_mem hx;have hj':i + 1 + j < l.length:=by simp at hj; omega
  have:=hP i (i + 1 + j) h1 hj' (by omega)
  rw [List.getElem_drop,decide_eq_true_eq]
  omega
theorem vC {s args:List Int} (hA:Asc s) (hs:s.length < 2 ^ 43) (ha:args.length < 2 ^ 62):dw () s args=some (if Fit s args then (s.filter (fun x=>decide (x ∉ args)),true) else ([],false)):=by
 unfold dw;have hc:dJ s=some s:=iC _ (by omega)
 rw [hc]
 refine kC.1 ?_
 show Tri (iter (gY args) (s,0)) _
 refine wP args.length (fun k l=>l=s.filter (fun x=>decide (x ∉ args.take k))∧∀ j:Nat,j < k→idx args (j:Int) ∈ s∧idx args (j:Int) ∉ args.take j) ⟨by simp; exact (List.filter_eq_self.2 (fun _ _=>rfl)).symm,fun j h=>by omega⟩ (fun k l hk hJ => ?_)
 obtain ⟨hl,hJ⟩:=hJ;have hAl:Asc l:=by rw [hl]; exact AL _ hA
 have hll:l.length≤s.length:=by rw [hl]; exact List.length_filter_le _ _
 unfold gY;refine mM (fun h => ?_) (fun h => ?_)
 ·have h:(k:Int) < args.length:=of_decide_eq_true h;have hks:k < args.length:=by omega
  refine ah (by omega) ?_
  rw [zB _ hAl (by omega)]
  have hm:=Fy (s:=l) (a:=idx args (k:Int)) hAl
  show Tri (bif !hit l (idx args (k:Int)) then _ else _) _
  cases hh:hit l (idx args (k:Int))
  ·simp only [Bool.not_false,cond_true]
   refine aA (af ?_)
   show ([],false)=_
   have hn:¬ Fit s args:=by
    intro hF;have h1:=hF k hks;have:idx args (k:Int) ∈ l:=by rw [hl,List.mem_filter]; exact ⟨h1.1,by simpa using h1.2⟩
    rw [hm.2 this] at hh
    cases hh
   rw [if_neg hn]
  ·simp only [Bool.not_true,cond_false]
   have hi:=Dt l (idx args (k:Int));have hlt:lb l (idx args (k:Int)) < l.length:=by
    simp only [hit,Bool.and_eq_true,decide_eq_true_eq] at hh
    exact hh.1
   have hd:fF l (lb l (idx args (k:Int)):Int) (w64 ((lb l (idx args (k:Int)):Int) + 1))=some (l.filter (fun x=>decide (x≠idx args (k:Int)))):=by
    unfold fF
    rw [bq (by omega),iC _ ⟨by omega,by omega,by omega⟩,Int.toNat_natCast,Int.toNat_natCast,AO hAl hh]
   rw [hd]
   refine ⟨_,rfl,bq (by omega),hks,?_,fun j hj => ?_⟩
   ·rw [zC hks,← hl]
   ·rcases Nat.lt_or_ge j k with h3 | h3
    ·exact hJ j h3
    ·have:j=k:=by omega
     subst this;have hmem:=hm.1 hh
     rw [hl,List.mem_filter] at hmem
     exact ⟨hmem.1,by simpa using hmem.2⟩
 ·have h:¬ (k:Int) < args.length:=of_decide_eq_false h;have hF:Fit s args:=fun j hj=>hJ j (by omega);refine aA (af ?_)
  show (l,true)=_
  rw [if_pos hF,hl,List.take_of_length_le (by omega)]
theorem Du {s args:List Int} (ha:args.length < 2 ^ 62) (h0:args≠[]):dW () s args=some ([],decide (s.length=1∧idx s 0=idx args ((args.length - 1:Nat):Int))):=by
 unfold dW;have hp:0 < args.length:=List.length_pos_iff.2 h0;have e1:w64 ((args.length:Int) - 1)=((args.length - 1:Nat):Int):=mW ha hp
 rw [e1]
 by_cases h1:s.length=1
 ·have h2:((s.length:Int) == 1)=true:=by rw [beq_iff_eq]; omega
  rw [h2,cond_true,iC _ (by omega),iC _ (by omega)]
  simp [h1]
  rw [Bool.eq_iff_iff]; simp
 ·have h2:((s.length:Int) == 1)=false:=by rw [beq_eq_false_iff_ne]; omega
  rw [h2,cond_false]
  simp [h1]
theorem uy (t:Int) {s args:List Int} (hs:s.length < 2 ^ 62) (ha:args.length < 2 ^ 62):dQ t s args=some (before t s args):=by
 unfold dQ before
 rw [vz t hs]
 by_cases hc:chk t s=0
 ·obtain ⟨h1,h2,h3⟩:=GA hc;have hl:=GD h3
  simp only [hc,Option.bind_some,bne_self_eq_false,cond_false,ne_eq,not_true,false_or]
  by_cases h0:args=[]
  ·subst h0
   simp [gQ]
  ·have hp:((args.length:Int) == 0)=false:=by
    have:0 < args.length:=List.length_pos_iff.2 h0
    rw [beq_eq_false_iff_ne]; omega
   rw [hp,if_neg h0]
   unfold gQ;rcases four ⟨h1,h2⟩ with rfl | rfl | rfl | rfl
   ·simp [gV,Du ha h0]
   ·simp [gV,uw (s:=s) (by omega) ha]
   ·simp [gV,vC (GG h3) (by omega) ha]
   ·have:=ok_one h3
    simp [gV,bY]
    rw [iC _ (by omega),yH (s:=s) ha]
    simp
 ·have:(chk t s != 0)=true:=by simpa using hc
  simp [hc,this,gQ]
theorem yI (t:Int) (s args:List Int):(before t s args).1.length≤s.length + 1:=by
 unfold before
 split
 ·simp
 ·split
  ·simp
  ·split
   ·split <;> simp <;> omega
   ·split
    ·split
     ·exact Nat.le_trans (List.length_filter_le _ _) (by omega)
     ·simp
    ·simp
end Go.Proofs.YtmfgddafcgflaaaT
namespace Go.Proofs.YtmfgddafcgflaaaT
open Go Go.Proofs Go.Proofs.YtmfgddafcgflaaaE
set_option linter.unusedVariables false
set_option linter.unusedSimpArgs false
def nC (c:Call) (k:Int):Prop :=
 1≤c.Kind∧c.Kind≤8∧1≤c.Key.size∧c.Key.size≤32 ∧
  (c.Kind≤4→c.Got=false∧c.Vals.length=0∧(c.Kind=4 → -1048576≤c.Arg∧c.Arg≤1048576)) ∧
  (5≤c.Kind→c.Arg=0∧(c.Got=true↔k=1)∧(c.Got=false→c.Vals.length=0) ∧
   (c.Got=true→(c.Kind=5→c.Vals.length≤1)∧(c.Kind=8→c.Vals.length=1)∧(c.Kind=7→Asc c.Vals)∧c.Vals.length≤64))
theorem yh {k:ByteArray}:k=(⟨#[]⟩:ByteArray)↔k.size=0:=by
 constructor
 ·rintro rfl; rfl
 ·intro h;obtain ⟨a⟩:=k;have:a = #[]:=Array.eq_empty_of_size_eq_zero h
  rw [this]
theorem Dv {c:Call} (hs:c.Vals.length < 2 ^ 61):Tri (iter (mG c) 1) (fun r=>r=true↔(c.Kind=7→Asc c.Vals)):=by
 refine df (k0:=1) (c.Vals.length + 1) (fun k x=>x=(k:Int)∧1≤k∧∀ j:Nat,j + 1 < k→j + 1 < c.Vals.length→idx c.Vals (j:Int) < idx c.Vals ((j + 1:Nat):Int)) (by omega) ⟨rfl,Nat.le_refl _,fun j h=>by omega⟩ ?_
 rintro k x hk ⟨rfl,a1,hJ⟩;unfold mG mF
 dsimp only
 have e:=mW (k:=k) (by omega) a1;have e2:=bq (k:=k) (by omega)
 rw [e,e2]
 repeat' (first | contradiction | with_reducible refine aj (fun hq => ?_) (fun hq => ?_) | with_reducible refine ah (by first | omega | grind [bz]) ?_ | with_reducible refine aA ?_ | with_reducible refine bF ?_ | with_reducible refine bR ?_ | with_reducible refine bN ?_ | with_reducible refine bS ?_ | with_reducible refine af ?_)
 ·show false=true↔_
  have hl:¬ Asc c.Vals:=by
   intro hA;have:=hA (k - 1) (by omega)
   rw [show k - 1 + 1=k by omega] at this
   omega
  grind
 ·refine ⟨by omega,rfl,by omega,fun j hj hl => ?_⟩
  rcases Nat.lt_or_ge (j + 1) k with h3 | h3
  ·exact hJ j h3 hl
  ·have:j=k - 1:=by omega
   subst this
   rw [show k - 1 + 1=k by omega]
   omega
 ·show true=true↔_
  have hl:Asc c.Vals:=fun j hj=>hJ j (by omega) hj
  grind
 ·show true=true↔_
  grind
theorem wE (c:Call) (k:Int) (hs:c.Vals.length < 2 ^ 61):Tri (bu c k) (fun r=>r=true↔nC c k):=by
 unfold bu jo mI mH qm nC
 simp only [cond_true,cond_false]
 have he:=yh (k:=c.Key)
 repeat' (first | contradiction | with_reducible refine aj (fun hq => ?_) (fun hq => ?_) | with_reducible refine ah (by first | omega | grind [bz]) ?_ | with_reducible refine aA ?_ | with_reducible refine bF ?_ | with_reducible refine bR ?_ | with_reducible refine bN ?_ | with_reducible refine bS ?_ | with_reducible refine af ?_ | refine dA (Dv hs) (fun r hr => ?_))
 all_goals grind
theorem Fz {c:Call} (hs:c.Vals.length < 2 ^ 61) (hc:c.Kind=7):Tri (iter (kz c) 1) (fun r=>r=true↔(Asc c.Vals∧c.Vals.length≤64)):=by
 refine df (k0:=1) (c.Vals.length + 1) (fun k x=>x=(k:Int)∧1≤k∧∀ j:Nat,j + 1 < k→j + 1 < c.Vals.length→idx c.Vals (j:Int) < idx c.Vals ((j + 1:Nat):Int)) (by omega) ⟨rfl,Nat.le_refl _,fun j h=>by omega⟩ ?_
 rintro k x hk ⟨rfl,a1,hJ⟩;unfold kz iQ
 dsimp only
 have e:=mW (k:=k) (by omega) a1;have e2:=bq (k:=k) (by omega)
 rw [e,e2]
 repeat' (first | contradiction | with_reducible refine aj (fun hq => ?_) (fun hq => ?_) | with_reducible refine ah (by first | omega | grind [bz]) ?_ | with_reducible refine aA ?_ | with_reducible refine bF ?_ | with_reducible refine bR ?_ | with_reducible refine bN ?_ | with_reducible refine bS ?_ | with_reducible refine af ?_)
 ·show false=true↔_
  have hl:¬ Asc c.Vals:=by
   intro hA;have:=hA (k - 1) (by omega)
   rw [show k - 1 + 1=k by omega] at this
   omega
  grind
 ·refine ⟨by omega,rfl,by omega,fun j hj hl => ?_⟩
  rcases Nat.lt_or_ge j (k - 1) with h3 | h3
  ·exact hJ j (by omega) hl
  ·have:j=k - 1:=by omega
   subst this
   rw [show k - 1 + 1=k by omega]
   omega
 ·show decide _=true↔_
  have hl:Asc c.Vals:=fun j hj=>hJ j (by omega) hj
  grind
theorem xW (c:Call) (k:Int) (hs:c.Vals.length < 2 ^ 61):Tri (aP c k) (fun r=>r=true↔nC c k):=by
 unfold aP fI fH iQ nC
 simp only [cond_true,cond_false]
 have ha:c.Vals.length=0→Asc c.Vals:=fun h j hj=>by omega
 repeat' (first | contradiction | with_reducible refine aj (fun hq => ?_) (fun hq => ?_) | with_reducible refine ah (by first | omega | grind [bz]) ?_ | with_reducible refine aA ?_ | with_reducible refine bF ?_ | with_reducible refine bR ?_ | with_reducible refine bN ?_ | with_reducible refine bS ?_ | with_reducible refine af ?_ | refine dA (Fz hs (by assumption)) (fun r hr => ?_))
 all_goals grind
def Small (l:List Call):Prop:=l.length < 2 ^ 61∧oN l (fun c=>c.Vals.length < 2 ^ 61)
theorem Dw {l:List Call} {e:Event} (hs:Small l):Tri (bO l e) (fun r=>r=true ↔ ¬ oN l (fun c=>nC c e.Kind)):=by
 have h1:Tri (aW l e) (fun r=>0≤r ↔ ¬ oN l (fun c=>nC c e.Kind)):=by
  have hl:=hs.1;unfold aW;refine lV l.length (fun j=>nC (idx l (j:Int)) e.Kind) ?_;intro k hk hJ;unfold dL nI
  dsimp only
  repeat' (first | contradiction | with_reducible refine aj (fun hq => ?_) (fun hq => ?_) | with_reducible refine ah (by first | omega | grind [bz]) ?_ | with_reducible refine aA ?_ | with_reducible refine bF ?_ | with_reducible refine bR ?_ | with_reducible refine bN ?_ | with_reducible refine bS ?_ | with_reducible refine af ?_ | refine bH (wE _ _ (hs.2 k (by omega))) (fun r hr => ?_))
  all_goals grind [Nxt,oN,bz]
 unfold bO;refine bH h1 (fun r hr => ?_)
 repeat' (first | contradiction | with_reducible refine aj (fun hq => ?_) (fun hq => ?_) | with_reducible refine ah (by first | omega | grind [bz]) ?_ | with_reducible refine aA ?_ | with_reducible refine bF ?_ | with_reducible refine bR ?_ | with_reducible refine bN ?_ | with_reducible refine bS ?_ | with_reducible refine af ?_)
 grind
def tT (e:Event):Prop:=0≤e.Kind∧e.Kind≤3∧e.Calls.length≤16∧oN e.Calls (fun c=>nC c e.Kind)
theorem wF {e:Event} (hs:Small e.Calls):Tri (dR [e]) (fun r=>(r=0↔tT e)∧(r=0∨r=1)):=by
 unfold dR;refine aj (fun h => ?_) (fun h => ?_)
 ·simp at h
 ·refine lV 1 (fun j=>tT e) ?_;intro k hk hJ;unfold pF kD
  dsimp only
  have hi:k=0→idx [e] (k:Int)=e:=by rintro rfl; rfl
  simp only [cond_true,cond_false]
  have hc:=fun h:k=0=>Dw (l:=e.Calls) (e:=e) hs
  by_cases h0:k=0
  ·rw [hi h0]
   repeat' (first | contradiction | with_reducible refine aj (fun hq => ?_) (fun hq => ?_) | with_reducible refine ah (by first | omega | grind [bz]) ?_ | with_reducible refine aA ?_ | with_reducible refine bF ?_ | with_reducible refine bR ?_ | with_reducible refine bN ?_ | with_reducible refine bS ?_ | with_reducible refine af ?_ | refine bH (hc h0) (fun r hr => ?_))
   all_goals grind [Nxt,tT,bz]
  ·repeat' (first | contradiction | with_reducible refine aj (fun hq => ?_) (fun hq => ?_) | with_reducible refine ah (by first | omega | grind [bz]) ?_ | with_reducible refine aA ?_ | with_reducible refine bF ?_ | with_reducible refine bR ?_ | with_reducible refine bN ?_ | with_reducible refine bS ?_ | with_reducible refine af ?_ | refine bH (hc (by grind)) (fun r hr => ?_))
   all_goals grind [Nxt,tT,bz]
theorem wX {e:Event} (hs:Small e.Calls):Tri (bP e) (fun r=>r=true↔tT e):=by
 unfold bP ig
 simp only [cond_true,cond_false]
 have hl:=hs.1;have h1:Tri (iter (jP e) 0) (fun r=>r=true↔oN e.Calls (fun c=>nC c e.Kind)):=by
  refine lV e.Calls.length (fun j=>nC (idx e.Calls (j:Int)) e.Kind) ?_;intro k hk hJ;unfold jP
  dsimp only
  repeat' (first | contradiction | with_reducible refine aj (fun hq => ?_) (fun hq => ?_) | with_reducible refine ah (by first | omega | grind [bz]) ?_ | with_reducible refine aA ?_ | with_reducible refine bF ?_ | with_reducible refine bR ?_ | with_reducible refine bN ?_ | with_reducible refine bS ?_ | with_reducible refine af ?_ | refine bH (xW _ _ (hs.2 k (by omega))) (fun r hr => ?_))
  all_goals grind [Nxt,oN,bz]
 repeat' (first | contradiction | with_reducible refine aj (fun hq => ?_) (fun hq => ?_) | with_reducible refine ah (by first | omega | grind [bz]) ?_ | with_reducible refine aA ?_ | with_reducible refine bF ?_ | with_reducible refine bR ?_ | with_reducible refine bN ?_ | with_reducible refine bS ?_ | with_reducible refine af ?_ | refine dA h1 (fun r hr => ?_))
 all_goals grind [tT]
theorem wG {e:Event} (hs:Small e.Calls):Tri (fC [e]) (fun r=>(r=0↔tT e)∧(r=0∨r=1)):=by
 unfold fC;refine aj (fun h => ?_) (fun h => ?_)
 ·simp at h
 ·refine lV 1 (fun j=>tT e) ?_;intro k hk hJ;unfold mR
  dsimp only
  have hi:k=0→idx [e] (k:Int)=e:=by rintro rfl; rfl
  have hc:k=0→Tri (bP (idx [e] (k:Int))) (fun r=>r=true↔tT e):=fun h0=>by rw [hi h0]; exact wX hs
  repeat' (first | contradiction | with_reducible refine aj (fun hq => ?_) (fun hq => ?_) | with_reducible refine ah (by first | omega | grind [bz]) ?_ | with_reducible refine aA ?_ | with_reducible refine bF ?_ | with_reducible refine bR ?_ | with_reducible refine bN ?_ | with_reducible refine bS ?_ | with_reducible refine af ?_ | refine bH (hc (by grind)) (fun r hr => ?_))
  all_goals grind [Nxt,bz]
def rF (h:History) (o:Op):Call:=⟨o.Kind,idx h.Keys o.Key,o.Arg,o.Got,o.Vals⟩
def bQ (h:History) (t:Txn):List Call:=t.Ops.map (rF h)
def sZ (h:History) (t:Txn):Event:=⟨0,t.Status,bQ h t⟩
def qF (h:History) (t:Txn):Prop:=oN t.Ops (fun o=>0≤o.Key∧o.Key < (h.Keys.length:Int))
def wY (t:Txn):Prop:=t.Ops.length * 56≤140737488351232∧oN t.Ops (fun o=>o.Vals.length * 8≤140737488351232)
theorem wY.small {h:History} {t:Txn} (hs:wY t) (k:Nat):Small ((bQ h t).take k):=by
 have h1:=hs.1;refine ⟨by simp [bQ]; omega,fun j hj => ?_⟩
 have hj':j < k∧j < t.Ops.length:=by simp [bQ] at hj; omega
 rw [oo hj'.1,bQ,sJ hj'.2]
 have:=hs.2 j hj'.2
 show (idx t.Ops (j:Int)).Vals.length < _
 omega
theorem vD {h:History} {t:Txn} (hs:wY t):Tri (cZ h t) (fun r=>(r.2=true↔qF h t∧tT (sZ h t))∧(r.2=true→r.1=sZ h t)):=by
 unfold cZ;have hl:=hs.1;refine wP t.Ops.length (fun k l=>l=(bQ h t).take k∧∀ j:Nat,j < k→0≤(idx t.Ops (j:Int)).Key∧(idx t.Ops (j:Int)).Key < (h.Keys.length:Int)) ⟨rfl,by omega⟩ ?_
 rintro k l hk ⟨rfl,hJ⟩;have hlen:((bQ h t).take k).length=k:=by simp [bQ]; omega
 unfold nR lu nQ
 simp only [cond_true,cond_false,hlen]
 have hsm:=wF (e:=⟨0,t.Status,(bQ h t).take k⟩) (hs.small k);have hfull:k=t.Ops.length→(bQ h t).take k=bQ h t:=fun e=>List.take_of_length_le (by simp [bQ]; omega);have hnext:k < t.Ops.length→(bQ h t).take (k + 1)=(bQ h t).take k++[rF h (idx t.Ops (k:Int))]:=fun hk=>by
  rw [mD (by simpa [bQ] using hk),bQ,sJ hk]
 repeat' (first | contradiction | with_reducible refine aj (fun hq => ?_) (fun hq => ?_) | with_reducible refine ah (by first | omega | grind [bz]) ?_ | with_reducible refine aA ?_ | with_reducible refine bF ?_ | with_reducible refine bR ?_ | with_reducible refine bN ?_ | with_reducible refine bS ?_ | with_reducible refine af ?_ | refine bH hsm (fun r hr => ?_))
 all_goals grind [Up2,qF,oN,bz,rF,sZ]
def yj (l:List Txn) (i:Nat):Prop:=∀ j:Nat,j < i → ¬ ((idx l (j:Int)).Proc=(idx l (i:Int)).Proc∧((idx l (j:Int)).To = -1∨(idx l (j:Int)).To ≥ (idx l (i:Int)).From))
def rG (l:List Txn) (i:Nat):Prop :=
 1≤(idx l (i:Int)).Status∧(idx l (i:Int)).Status≤3∧0≤(idx l (i:Int)).From∧((idx l (i:Int)).To = -1→(idx l (i:Int)).Status=3) ∧
  ((idx l (i:Int)).To ≠ -1→(idx l (i:Int)).From < (idx l (i:Int)).To)∧(0 < i→(idx l ((i - 1:Nat):Int)).From < (idx l (i:Int)).From)∧yj l i
theorem Cy {l:List Txn} {i:Nat} (hi:i < l.length) (hl:l.length < 2 ^ 61):Tri (bL (bV l 0 (i:Int)) (idx l (i:Int))) (fun r=>r=true ↔ ¬ yj l i):=by
 have h1:Tri (aS (bV l 0 (i:Int)) (idx l (i:Int))) (fun r=>0≤r ↔ ¬ yj l i):=by
  rw [kX (by omega)]
  unfold aS;have ht:(l.take i).length=i:=by simp; omega
  refine lV i (fun j => ¬ ((idx l (j:Int)).Proc=(idx l (i:Int)).Proc∧((idx l (j:Int)).To = -1∨(idx l (j:Int)).To ≥ (idx l (i:Int)).From))) ?_;intro k hk hJ;unfold dI lv
  dsimp only
  rw [ht]
  have hx:k < i→idx (l.take i) (k:Int)=idx l (k:Int):=fun h=>oo h
  repeat' (first | contradiction | with_reducible refine aj (fun hq => ?_) (fun hq => ?_) | with_reducible refine ah (by first | omega | grind [bz]) ?_ | with_reducible refine aA ?_ | with_reducible refine bF ?_ | with_reducible refine bR ?_ | with_reducible refine bN ?_ | with_reducible refine bS ?_ | with_reducible refine af ?_)
  all_goals grind [Nxt,yj,bz]
 unfold bL;refine bH h1 (fun r hr => ?_)
 repeat' (first | contradiction | with_reducible refine aj (fun hq => ?_) (fun hq => ?_) | with_reducible refine ah (by first | omega | grind [bz]) ?_ | with_reducible refine aA ?_ | with_reducible refine bF ?_ | with_reducible refine bR ?_ | with_reducible refine bN ?_ | with_reducible refine bS ?_ | with_reducible refine af ?_)
 grind
theorem uz {l:List Txn} {i:Nat} (hi:i < l.length) (hl:l.length < 2 ^ 61):Tri (bn (bV l 0 (i:Int)) (idx l (i:Int))) (fun r=>r=true↔rG l i):=by
 have hf:=Cy hi hl;have hlen:(bV l 0 (i:Int)).length=i:=by rw [kX (by omega)]; simp; omega
 have hx:0 < i→idx (bV l 0 (i:Int)) (w64 ((i:Int) - 1))=idx l ((i - 1:Nat):Int):=fun h=>by
  rw [mW (by omega) (by omega),kX (by omega),oo (by omega)]
 have hw:0 < i→w64 ((i:Int) - 1)=((i - 1:Nat):Int):=fun h=>mW (by omega) (by omega);unfold bn kK kJ kI jg rG
 simp only [cond_true,cond_false,hlen]
 repeat' (first | contradiction | with_reducible refine aj (fun hq => ?_) (fun hq => ?_) | with_reducible refine ah (by first | omega | grind [bz]) ?_ | with_reducible refine aA ?_ | with_reducible refine bF ?_ | with_reducible refine bR ?_ | with_reducible refine bN ?_ | with_reducible refine bS ?_ | with_reducible refine af ?_ | refine bH hf (fun r hr => ?_))
 all_goals grind
theorem qP {l:List Txn} {i:Nat} (hi:i < l.length) (hl:l.length < 2 ^ 61):Tri (aI l (i:Int)) (fun r=>r=true↔rG l i):=by
 have h1:Tri (iter (jB l (i:Int)) 0) (fun r=>r=true↔yj l i):=by
  refine lV i (fun j => ¬ ((idx l (j:Int)).Proc=(idx l (i:Int)).Proc∧((idx l (j:Int)).To = -1∨(idx l (j:Int)).To ≥ (idx l (i:Int)).From))) ?_;intro k hk hJ;unfold jB gF
  simp only [cond_true,cond_false]
  repeat' (first | contradiction | with_reducible refine aj (fun hq => ?_) (fun hq => ?_) | with_reducible refine ah (by first | omega | grind [bz]) ?_ | with_reducible refine aA ?_ | with_reducible refine bF ?_ | with_reducible refine bR ?_ | with_reducible refine bN ?_ | with_reducible refine bS ?_ | with_reducible refine af ?_)
  all_goals grind [Nxt,yj,bz]
 have hw:0 < i→w64 ((i:Int) - 1)=((i - 1:Nat):Int):=fun h=>mW (by omega) (by omega);unfold aI cz jC rG
 simp only [cond_true,cond_false]
 repeat' (first | contradiction | with_reducible refine aj (fun hq => ?_) (fun hq => ?_) | with_reducible refine ah (by first | omega | grind [bz]) ?_ | with_reducible refine aA ?_ | with_reducible refine bF ?_ | with_reducible refine bR ?_ | with_reducible refine bN ?_ | with_reducible refine bS ?_ | with_reducible refine af ?_ | refine dA h1 (fun r hr => ?_))
 all_goals grind
def BL (l:List ByteArray) (s:ByteArray) (r:Int):Prop :=
 (r = -1∧∀ j:Nat,j < l.length→idx l (j:Int)≠s)∨(∃ k:Nat,r=(k:Int)∧k < l.length∧idx l (k:Int)=s∧∀ j:Nat,j < k→idx l (j:Int)≠s)
theorem vE {l:List ByteArray} {s:ByteArray} (hl:l.length < 2 ^ 61):Tri (dS l s) (BL l s):=by
 unfold dS;refine lV l.length (fun j=>idx l (j:Int)≠s) ?_;intro k hk hJ;unfold nG
 dsimp only
 repeat' (first | contradiction | with_reducible refine aj (fun hq => ?_) (fun hq => ?_) | with_reducible refine ah (by first | omega | grind [bz]) ?_ | with_reducible refine aA ?_ | with_reducible refine bF ?_ | with_reducible refine bR ?_ | with_reducible refine bN ?_ | with_reducible refine bS ?_ | with_reducible refine af ?_)
 ·exact .inr ⟨k,rfl,by omega,by assumption,hJ⟩
 ·grind [Nxt,bz]
 ·exact .inl ⟨rfl,fun j hj=>hJ j (by omega)⟩
def tV (l:List ByteArray) (i:Nat):Prop:=1≤(idx l (i:Int)).size∧(idx l (i:Int)).size≤32∧∀ j:Nat,j < i→idx l (j:Int)≠idx l (i:Int)
def lQ (l:List ByteArray):Prop:=l.length≤32∧∀ i:Nat,i < l.length→tV l i
theorem xX {l:List ByteArray} {s:ByteArray} (hl:l.length < 2 ^ 61):Tri (slices_Contains_string l s) (fun r=>r=true↔∃ j:Nat,j < l.length∧idx l (j:Int)=s):=by
 have h1:Tri (slices_Index_string l s) (fun r=>0≤r↔∃ j:Nat,j < l.length∧idx l (j:Int)=s):=by
  unfold slices_Index_string;refine lV l.length (fun j=>idx l (j:Int)≠s) ?_;intro k hk hJ;unfold iY
  dsimp only
  repeat' (first | contradiction | with_reducible refine aj (fun hq => ?_) (fun hq => ?_) | with_reducible refine ah (by first | omega | grind [bz]) ?_ | with_reducible refine aA ?_ | with_reducible refine bF ?_ | with_reducible refine bR ?_ | with_reducible refine bN ?_ | with_reducible refine bS ?_ | with_reducible refine af ?_)
  all_goals grind [Nxt,bz]
 unfold slices_Contains_string;refine bH h1 (fun r hr => ?_)
 repeat' (first | contradiction | with_reducible refine aj (fun hq => ?_) (fun hq => ?_) | with_reducible refine ah (by first | omega | grind [bz]) ?_ | with_reducible refine aA ?_ | with_reducible refine bF ?_ | with_reducible refine bR ?_ | with_reducible refine bN ?_ | with_reducible refine bS ?_ | with_reducible refine af ?_)
 grind
theorem wZ {l:List ByteArray} (hl:l.length < 2 ^ 61):Tri (cK l) (fun r=>r=true↔lQ l):=by
 unfold cK;refine lV l.length (tV l) ?_;intro k hk hJ;unfold mQ ib
 simp only [cond_true,cond_false]
 have hf:Tri (dS (bV l 0 (k:Int)) (idx l (k:Int))) (fun r=>0≤r↔∃ j:Nat,j < k∧idx l (j:Int)=idx l (k:Int)):=by
  rw [kX (by omega)]
  refine dA (vE (by simp; omega)) (fun r hr => ?_);have ht:(l.take k).length=k:=by simp; omega
  have hx:∀ j:Nat,j < k→idx (l.take k) (j:Int)=idx l (j:Int):=fun j h=>oo h;unfold BL at hr
  rw [ht] at hr
  grind
 have hN:lQ l→k < l.length→tV l k:=fun h hk=>h.2 k hk
 repeat' (first | contradiction | with_reducible refine aj (fun hq => ?_) (fun hq => ?_) | with_reducible refine ah (by first | omega | grind [bz]) ?_ | with_reducible refine aA ?_ | with_reducible refine bF ?_ | with_reducible refine bR ?_ | with_reducible refine bN ?_ | with_reducible refine bS ?_ | with_reducible refine af ?_ | refine bH hf (fun r hr => ?_))
 all_goals (have hNk:tV l k↔(1≤(idx l (k:Int)).size∧(idx l (k:Int)).size≤32∧∀ j:Nat,j < k→idx l (j:Int)≠idx l (k:Int)):=Iff.rfl)
 all_goals grind [Nxt,lQ,bz]
end Go.Proofs.YtmfgddafcgflaaaT
namespace Go.Proofs.YtmfgddafcgflaaaT
open Go Go.Proofs Go.Proofs.YtmfgddafcgflaaaE
set_option linter.unusedVariables false
set_option linter.unusedSimpArgs false
def typ (k:Int):Int:=(k - 1) % 4 + 1
theorem rH {k:Int} (h1:1≤k) (h2:k≤8):jU k=some (typ k):=by
 have:k=1∨k=2∨k=3∨k=4∨k=5∨k=6∨k=7∨k=8:=by omega
 rcases this with h | h | h | h | h | h | h | h <;> subst h <;> decide
theorem yJ {k:Int} (h1:1≤k) (h2:k≤8):nV k=some (typ k):=by
 have:k=1∨k=2∨k=3∨k=4∨k=5∨k=6∨k=7∨k=8:=by omega
 rcases this with h | h | h | h | h | h | h | h <;> subst h <;> decide
structure Sim (g:aO) (b:az) (n:Nat):Prop where
 keys:g.keys=b.keys
 types:g.types=b.types
 len:b.keys.length≤32
 tl:b.types.length=b.keys.length
 wl:b.wrote.length=b.keys.length
 il:b.incs.length=b.keys.length
 ll:b.last_.length=b.keys.length
 nd:∀ i j:Nat,i < b.keys.length→j < b.keys.length→idx b.keys (i:Int)=idx b.keys (j:Int)→i=j
 has:∀ s,jl g.at_ s=true↔∃ j:Nat,j < b.keys.length∧idx b.keys (j:Int)=s
 at_:∀ j:Nat,j < b.keys.length→mat g.at_ (idx b.keys (j:Int))=(j:Int)
 facts:∀ j:Nat,j < b.keys.length→∀ a,jl g.facts ⟨idx b.keys (j:Int),a⟩=true↔∃ m:Nat,m < (idx b.wrote (j:Int)).length∧idx (idx b.wrote (j:Int)) (m:Int)=a
 fout:∀ s a,jl g.facts ⟨s,a⟩=true→∃ j:Nat,j < b.keys.length∧idx b.keys (j:Int)=s
 wn:∀ j:Nat,j < b.keys.length→(idx b.wrote (j:Int)).length≤n
 incs:∀ j:Nat,j < b.keys.length→((mat g.incs (idx b.keys (j:Int))).length:Int)=idx b.incs (j:Int)
 i8:∀ j:Nat,j < b.keys.length→(mat g.incs (idx b.keys (j:Int))).length≤8
 iout:∀ s,(∀ j:Nat,j < b.keys.length→idx b.keys (j:Int)≠s)→mat g.incs s=[]
 last:∀ j:Nat,j < b.keys.length→((mat g.incs (idx b.keys (j:Int))).length=0→idx b.last_ (j:Int) = -1) ∧
  (0 < (mat g.incs (idx b.keys (j:Int))).length→idx b.last_ (j:Int)=idx (mat g.incs (idx b.keys (j:Int))) (((mat g.incs (idx b.keys (j:Int))).length - 1:Nat):Int))
theorem Sim.start:Sim ⟨[],[],[],[],[]⟩ ⟨[],[],[],[],[]⟩ 0:=by
 refine ⟨rfl,rfl,by simp,rfl,rfl,rfl,rfl,?_,?_,?_,?_,?_,?_,?_,?_,?_,?_⟩
 all_goals simp [zU,FT]
 rfl
theorem Sim.mono {g:aO} {b:az} {n m:Nat} (h:Sim g b n) (hm:n≤m):Sim g b m :=
 { h with wn:=fun j hj=>Nat.le_trans (h.wn j hj) hm }
theorem Sim.new {g:aO} {b:az} {n:Nat} (h:Sim g b n) {s:ByteArray} {t:Int} (hn:∀ j:Nat,j < b.keys.length→idx b.keys (j:Int)≠s) (a2:b.keys.length < 32) :
  Sim ⟨g.keys++[s],eB g.at_ s (g.keys.length:Int),g.types++[t],g.facts,g.incs⟩ ⟨b.keys++[s],b.types++[t],b.wrote++[[]],b.incs++[0],b.last_++[-1]⟩ n:=by
 have hk:=h.keys;have hl:(b.keys++[s]).length=b.keys.length + 1:=by simp
 have k1:∀ j:Nat,j < b.keys.length→idx (b.keys++[s]) (j:Int)=idx b.keys (j:Int):=fun j hj=>iR hj;have k2:idx (b.keys++[s]) ((b.keys.length:Nat):Int)=s:=gG rfl;have w1:∀ j:Nat,j < b.keys.length→idx (b.wrote++[[]]) (j:Int)=idx b.wrote (j:Int):=fun j hj=>iR (by rw [h.wl]; exact hj);have w2:idx (b.wrote++[[]]) ((b.keys.length:Nat):Int)=[]:=gG h.wl.symm;have i1:∀ j:Nat,j < b.keys.length→idx (b.incs++[0]) (j:Int)=idx b.incs (j:Int):=fun j hj=>iR (by rw [h.il]; exact hj);have i2:idx (b.incs++[0]) ((b.keys.length:Nat):Int)=0:=gG h.il.symm;have l1:∀ j:Nat,j < b.keys.length→idx (b.last_++[-1]) (j:Int)=idx b.last_ (j:Int):=fun j hj=>iR (by rw [h.ll]; exact hj);have l2:idx (b.last_++[-1]) ((b.keys.length:Nat):Int) = -1:=gG h.ll.symm;have a1:=h.iout s hn;have cut:∀ j:Nat,j < b.keys.length + 1→j < b.keys.length∨j=b.keys.length:=by omega
 refine ⟨by simp [hk],by simp [h.types],by simp; omega,by simp [h.tl],by simp [h.wl],by simp [h.il],by simp [h.ll],?_,?_,?_,?_,?_,?_,?_,?_,?_,?_⟩
 ·intro i j hi hj he
  dsimp only at hi hj he
  rw [hl] at hi hj
  have:=h.nd i j;rcases cut i hi with hi' | hi' <;> rcases cut j hj with hj' | hj' <;> grind
 ·intro x
  dsimp only
  rw [rU,hl,h.has]
  constructor
  ·rintro (rfl | ⟨j,hj,he⟩)
   ·exact ⟨_,Nat.lt_succ_self _,k2⟩
   ·exact ⟨j,by omega,(k1 j hj).trans he⟩
  ·rintro ⟨j,hj,he⟩;rcases cut j hj with hj' | hj'
   ·exact .inr ⟨j,hj',(k1 j hj') ▸ he⟩
   ·subst hj'; exact .inl (k2.symm.trans he).symm
 ·intro j hj
  dsimp only at hj ⊢
  rw [hl] at hj
  rw [lW,hk]
  rcases cut j hj with hj' | hj'
  ·rw [k1 j hj',if_neg (hn j hj')]; exact h.at_ j hj'
  ·subst hj'; rw [k2,if_pos rfl]
 ·intro j hj a
  dsimp only at hj ⊢
  rw [hl] at hj
  rcases cut j hj with hj' | hj'
  ·rw [k1 j hj',w1 j hj']; exact h.facts j hj' a
  ·subst hj'
   rw [k2,w2]
   constructor
   ·intro hh;obtain ⟨i,hi,he⟩:=h.fout s a hh;exact absurd he (hn i hi)
   ·rintro ⟨m,hm,_⟩; simp at hm
 ·intro x a hh;obtain ⟨i,hi,he⟩:=h.fout x a hh;exact ⟨i,by simp; omega,(k1 i hi).trans he⟩
 ·intro j hj
  dsimp only at hj ⊢
  rw [hl] at hj
  rcases cut j hj with hj' | hj'
  ·rw [w1 j hj']; exact h.wn j hj'
  ·subst hj'; rw [w2]; simp
 ·intro j hj
  dsimp only at hj ⊢
  rw [hl] at hj
  rcases cut j hj with hj' | hj'
  ·rw [k1 j hj',i1 j hj']; exact h.incs j hj'
  ·subst hj'; rw [k2,i2,a1]; rfl
 ·intro j hj
  dsimp only at hj ⊢
  rw [hl] at hj
  rcases cut j hj with hj' | hj'
  ·rw [k1 j hj']; exact h.i8 j hj'
  ·subst hj'; rw [k2,a1]; simp
 ·intro x hx
  dsimp only at hx ⊢
  rw [hl] at hx
  exact h.iout x (fun j hj=>by rw [← k1 j hj]; exact hx j (by omega))
 ·intro j hj
  dsimp only at hj ⊢
  rw [hl] at hj
  rcases cut j hj with hj' | hj'
  ·rw [k1 j hj',l1 j hj']; exact h.last j hj'
  ·subst hj'; rw [k2,l2,a1]; simp
theorem Sim.write {g:aO} {b:az} {n k:Nat} (h:Sim g b n) {s:ByteArray} {a:Int} (hk:k < b.keys.length) (hs:idx b.keys (k:Int)=s) :
  Sim ⟨g.keys,g.at_,g.types,eB g.facts ⟨s,a⟩ (),g.incs⟩ ⟨b.keys,b.types,b.wrote.set k (idx b.wrote (k:Int)++[a]),b.incs,b.last_⟩ (n + 1):=by
 have w1:∀ j:Nat,idx (b.wrote.set k (idx b.wrote (k:Int)++[a])) (j:Int)=if j=k then idx b.wrote (k:Int)++[a] else idx b.wrote (j:Int):=fun j=>oq (by rw [h.wl]; exact hk);refine ⟨h.keys,h.types,h.len,h.tl,by simp [h.wl],h.il,h.ll,h.nd,h.has,h.at_,?_,?_,?_,h.incs,h.i8,h.iout,h.last⟩
 ·intro j hj x
  dsimp only at hj ⊢
  rw [rU,w1 j,h.facts j hj]
  by_cases e:j=k
  ·subst e
   rw [if_pos rfl,hs]
   constructor
   ·rintro (he | ⟨m,hm,he⟩)
    ·have:x=a:=by injection he
     subst this;exact ⟨_,by simp,gG rfl⟩
    ·exact ⟨m,by simp; omega,(iR hm).trans he⟩
   ·rintro ⟨m,hm,he⟩;rcases Nat.lt_or_ge m (idx b.wrote (j:Int)).length with h1 | h1
    ·exact .inr ⟨m,h1,(iR h1).symm.trans he⟩
    ·simp at hm
     rw [gG (by omega)] at he
     rw [he]; exact .inl rfl
  ·rw [if_neg e]
   constructor
   ·rintro (he | hh)
    ·injection he with h1 h2
     exact absurd (h.nd j k hj hk (h1.trans hs.symm)) e
    ·exact hh
   ·exact .inr
 ·intro x y hh
  dsimp only at hh ⊢
  rcases rU.1 hh with he | hh
  ·injection he with h1 h2
   exact ⟨k,hk,hs.trans h1.symm⟩
  ·exact h.fout x y hh
 ·intro j hj
  dsimp only at hj ⊢
  rw [w1 j]
  have:=h.wn j hj
  split
  ·rename_i e; subst e; simp; omega
  ·omega
theorem Sim.inc {g:aO} {b:az} {n k:Nat} (h:Sim g b n) {s:ByteArray} {a:Int} (hk:k < b.keys.length) (hs:idx b.keys (k:Int)=s) (h8:(mat g.incs s).length < 8) :
  Sim ⟨g.keys,g.at_,g.types,g.facts,eB g.incs s (mat g.incs s++[a])⟩ ⟨b.keys,b.types,b.wrote,b.incs.set k (idx b.incs (k:Int) + 1),b.last_.set k a⟩ n:=by
 have i1:∀ j:Nat,idx (b.incs.set k (idx b.incs (k:Int) + 1)) (j:Int)=if j=k then idx b.incs (k:Int) + 1 else idx b.incs (j:Int):=fun j=>oq (by rw [h.il]; exact hk);have l1:∀ j:Nat,idx (b.last_.set k a) (j:Int)=if j=k then a else idx b.last_ (j:Int):=fun j=>oq (by rw [h.ll]; exact hk);have hne:∀ j:Nat,j < b.keys.length→j≠k→idx b.keys (j:Int)≠s:=fun j hj e he=>e (h.nd j k hj hk (he.trans hs.symm));refine ⟨h.keys,h.types,h.len,h.tl,h.wl,by simp [h.il],by simp [h.ll],h.nd,h.has,h.at_,h.facts,h.fout,h.wn,?_,?_,?_,?_⟩
 ·intro j hj
  dsimp only at hj ⊢
  rw [lW,i1 j]
  by_cases e:j=k
  ·subst e
   rw [if_pos hs,if_pos rfl,← h.incs j hj,hs]; simp
  ·rw [if_neg (hne j hj e),if_neg e]; exact h.incs j hj
 ·intro j hj
  dsimp only at hj ⊢
  rw [lW]
  by_cases e:j=k
  ·subst e
   rw [if_pos hs]; simp; omega
  ·rw [if_neg (hne j hj e)]; exact h.i8 j hj
 ·intro x hx
  dsimp only at hx ⊢
  rw [lW,if_neg (fun e=>hx k hk (hs.trans e.symm))]
  exact h.iout x hx
 ·intro j hj
  dsimp only at hj ⊢
  rw [lW,l1 j]
  by_cases e:j=k
  ·subst e
   rw [if_pos hs,if_pos rfl]
   refine ⟨fun h0=>by simp at h0,fun _ => ?_⟩
   rw [gG (by simp)]
  ·rw [if_neg (hne j hj e),if_neg e]; exact h.last j hj
theorem AP {c:Call} {who:Int} {a4:List ByteArray} {a3:List Int} {a1:List (List Int)} {a5 a2:List Int} {k:Nat} {Q:Int×az→Prop} (hk:k < a1.length) (hb:(idx a1 (k:Int)).length≤4096)
  (h1:(∃ m:Nat,m < (idx a1 (k:Int)).length∧idx (idx a1 (k:Int)) (m:Int)=c.Arg)→Q (3,⟨a4,a3,a1,a5,a2⟩))
  (h2:(¬ ∃ m:Nat,m < (idx a1 (k:Int)).length∧idx (idx a1 (k:Int)) (m:Int)=c.Arg)→Tri (dM c who a4 a3 a5 a2 (k:Int) (a1.set k (idx a1 (k:Int)++[c.Arg]))) Q) :
  Tri (iter (gI c who a4 a3 a1 a5 a2 (k:Int)) 0) Q:=by
 refine lV (idx a1 (k:Int)).length (fun m=>idx (idx a1 (k:Int)) (m:Int)≠c.Arg) ?_;intro m hm hJ;unfold gI
 dsimp only
 rw [Int.toNat_natCast]
 repeat' (first | contradiction | with_reducible refine aj (fun hq => ?_) (fun hq => ?_) | with_reducible refine ah (by first | omega | grind [bz]) ?_ | with_reducible refine aA ?_ | with_reducible refine bF ?_ | with_reducible refine bR ?_ | with_reducible refine bN ?_ | with_reducible refine bS ?_ | with_reducible refine af ?_)
 ·exact h1 ⟨m,by omega,by assumption⟩
 ·grind [Nxt,bz]
 ·exact h2 (by grind)
def Both (r:Int×aO) (n:Nat) (r':Int×az):Prop:=r.1=r'.1∧(r.1=0→Sim r.2 r'.2 n)
def AQ (b:az) (c:Call) (who:Int) (k:Nat) (r:Int×az):Prop :=
 (idx b.types (k:Int)≠typ c.Kind∧r=(50,b)) ∨
 (idx b.types (k:Int)=typ c.Kind∧(c.Kind=2∨c.Kind=3)∧(∃ m:Nat,m < (idx b.wrote (k:Int)).length∧idx (idx b.wrote (k:Int)) (m:Int)=c.Arg)∧r=(3,b)) ∨
 (idx b.types (k:Int)=typ c.Kind∧(c.Kind=2∨c.Kind=3)∧(¬ ∃ m:Nat,m < (idx b.wrote (k:Int)).length∧idx (idx b.wrote (k:Int)) (m:Int)=c.Arg) ∧
  r=(0,⟨b.keys,b.types,b.wrote.set k (idx b.wrote (k:Int)++[c.Arg]),b.incs,b.last_⟩)) ∨
 (idx b.types (k:Int)=typ c.Kind∧c.Kind=4∧idx b.last_ (k:Int)≠who∧idx b.incs (k:Int) + 1 > 8∧r.1=51) ∨
 (idx b.types (k:Int)=typ c.Kind∧c.Kind=4∧idx b.last_ (k:Int)≠who∧idx b.incs (k:Int) + 1≤8 ∧
  r=(0,⟨b.keys,b.types,b.wrote,b.incs.set k (idx b.incs (k:Int) + 1),b.last_.set k who⟩)) ∨
 (idx b.types (k:Int)=typ c.Kind∧c.Kind=4∧idx b.last_ (k:Int)=who∧r=(0,b)) ∨
 (idx b.types (k:Int)=typ c.Kind∧c.Kind≠2∧c.Kind≠3∧c.Kind≠4∧r=(0,b))
theorem yK {b:az} {k:Nat} {c:Call} {who:Int} (hk:k < b.keys.length) (t1:b.types.length=b.keys.length) (t2:b.wrote.length=b.keys.length) (t3:b.incs.length=b.keys.length)
  (t4:b.last_.length=b.keys.length) (hwr:(idx b.wrote (k:Int)).length≤4096) (hin:0≤idx b.incs (k:Int)∧idx b.incs (k:Int)≤8)
  (h1:1≤c.Kind) (h8:c.Kind≤8):Tri (dC c who b.keys b.types b.wrote b.incs b.last_ (k:Int)) (AQ b c who k):=by
 have e1:w64 (idx b.incs (k:Int) + 1)=idx b.incs (k:Int) + 1:=bz (by omega) (by omega);have e2:idx (b.incs.set k (idx b.incs (k:Int) + 1)) (k:Int)=idx b.incs (k:Int) + 1:=by rw [oq (by omega),if_pos rfl]
 unfold dC gJ dM eG eF
 simp only [cond_true,cond_false,yJ h1 h8,Int.toNat_natCast,e1,e2]
 repeat' (first | contradiction | with_reducible refine aj (fun hq => ?_) (fun hq => ?_) | with_reducible refine ah (by first | omega | grind [bz]) ?_ | with_reducible refine aA ?_ | with_reducible refine bF ?_ | with_reducible refine bR ?_ | with_reducible refine bN ?_ | with_reducible refine bS ?_ | with_reducible refine af ?_ | refine AP (by omega) hwr (fun h => ?_) (fun h => ?_))
 all_goals try unfold dM eG eF
 all_goals try simp only [cond_true,cond_false,Int.toNat_natCast,e1,e2]
 repeat' (first | contradiction | with_reducible refine aj (fun hq => ?_) (fun hq => ?_) | with_reducible refine ah (by first | omega | grind [bz]) ?_ | with_reducible refine aA ?_ | with_reducible refine bF ?_ | with_reducible refine bR ?_ | with_reducible refine bN ?_ | with_reducible refine bS ?_ | with_reducible refine af ?_)
 all_goals grind [AQ]
theorem enter_at {g:aO} {b:az} {n k:Nat} {a0:aO} {c:Call} {who:Int} (h:Sim g b n) (hf:a0.facts=g.facts) (hi:a0.incs=g.incs) (hk:k < b.keys.length) (hs:idx b.keys (k:Int)=c.Key)
  (h1:1≤c.Kind) (h8:c.Kind≤8) (hw:0≤who) (hn:n≤2048) :
  Tri (eP a0 c who g.keys g.at_ g.types (k:Int)) (fun r=>Tri (dC c who b.keys b.types b.wrote b.incs b.last_ (k:Int)) (Both r (n + 1))):=by
 obtain ⟨gk,ga,gt,gf,gi⟩:=g
 dsimp only at hf hi
 have htl:=h.types;have hkk:=h.keys
 dsimp only at htl hkk ⊢
 subst htl hkk;have t1:=h.tl;have t2:=h.wl;have t3:=h.il;have t4:=h.ll;have hfa:=h.facts k hk c.Arg;have hin:=h.incs k hk;have a1:=h.i8 k hk;have hla:=h.last k hk;have hwr:=h.wn k hk
 rw [hs] at hfa hin a1 hla
 dsimp only at hfa hin a1 hla
 obtain ⟨r',hr',spec⟩:=yK (who:=who) hk t1 t2 t3 t4 (by omega) (by omega) h1 h8;have s0:=h.mono (Nat.le_succ n);have s1:=h.write (a:=c.Arg) hk hs;have s2:(mat gi c.Key).length < 8→_:=fun hl=>(h.inc (a:=who) hk hs hl).mono (Nat.le_succ n)
 dsimp only at s1 s2
 have e3:0 < (mat gi c.Key).length→w64 (((mat gi c.Key).length:Int) - 1)=(((mat gi c.Key).length - 1:Nat):Int):=fun h=>mW (by omega) (by omega);have m1:mat (eB gi c.Key (mat gi c.Key++[who])) c.Key=mat gi c.Key++[who]:=by rw [lW,if_pos rfl]
 unfold eP gq jr gp gm eO
 simp only [cond_true,cond_false,rH h1 h8,hf,hi,m1]
 repeat' (first | contradiction | with_reducible refine aj (fun hq => ?_) (fun hq => ?_) | with_reducible refine ah (by first | omega | grind [bz]) ?_ | with_reducible refine aA ?_ | with_reducible refine bF ?_ | with_reducible refine bR ?_ | with_reducible refine bN ?_ | with_reducible refine bS ?_ | with_reducible refine af ?_)
 all_goals refine ⟨r',hr',?_⟩
 all_goals unfold AQ at spec
 all_goals simp only [Both]
 all_goals grind
theorem AR {g:aO} {b:az} {n:Nat} {c:Call} {who:Int} (h:Sim g b n) (h1:1≤c.Kind) (h8:c.Kind≤8) (hw:0≤who) (hn:n≤2048) :
  Tri (av g c who) (fun r=>Tri (ag b c who) (Both r (n + 1))):=by
 have hl:=h.len;have t1:=h.tl;have t2:=h.wl;have t3:=h.il;have t4:=h.ll;have hk:=h.keys;have ht:=h.types;obtain ⟨r0,a3,hf⟩:=vE (l:=b.keys) (s:=c.Key) (by omega);rcases hf with ⟨rfl,hno⟩ | ⟨k,rfl,a2,a1,_⟩
 ·have hm:¬ jl g.at_ c.Key=true:=fun hh=>by
   obtain ⟨j,hj,he⟩:=(h.has c.Key).1 hh;exact hno j hj he
  unfold av ag jv
  simp only [a3,rH h1 h8,hk,ht]
  refine aj (fun _ => ?_) (fun hh=>absurd hm hh);refine aj (fun a4 => ?_) (fun a4 => ?_)
  ·refine af (bF ?_)
   repeat' (first | contradiction | with_reducible refine aj (fun hq => ?_) (fun hq => ?_) | with_reducible refine ah (by first | omega | grind [bz]) ?_ | with_reducible refine aA ?_ | with_reducible refine bF ?_ | with_reducible refine bR ?_ | with_reducible refine bN ?_ | with_reducible refine bS ?_ | with_reducible refine af ?_)
   ·exact ⟨rfl,fun h=>by cases h⟩
   ·omega
  ·have hS:=h.new (s:=c.Key) (t:=typ c.Kind) hno (by omega)
   rw [hk,ht] at hS
   have he:=enter_at (a0:=g) (who:=who) hS rfl rfl (k:=b.keys.length) (by simp) (gG rfl) h1 h8 hw hn
   dsimp only at he
   refine ah (by omega) (bF (ah (by omega) ?_));refine dA he (fun r hr => ?_);unfold gM gL
   simp only [yJ h1 h8]
   repeat' (first | contradiction | with_reducible refine aj (fun hq => ?_) (fun hq => ?_) | with_reducible refine ah (by first | omega | grind [bz]) ?_ | with_reducible refine aA ?_ | with_reducible refine bF ?_ | with_reducible refine bR ?_ | with_reducible refine bN ?_ | with_reducible refine bS ?_ | with_reducible refine af ?_ | exact hr)
   omega
 ·have hm:jl g.at_ c.Key=true:=(h.has c.Key).2 ⟨k,a2,a1⟩;have hat:mat g.at_ c.Key=(k:Int):=by rw [← a1]; exact h.at_ k a2
  have he:=enter_at (a0:=g) (who:=who) h rfl rfl a2 a1 h1 h8 hw hn;unfold av ag
  simp only [a3,hat]
  refine aj (fun hh=>absurd hm hh) (fun _ => ?_);refine dA he (fun r hr=>bF ?_)
  repeat' (first | contradiction | with_reducible refine aj (fun hq => ?_) (fun hq => ?_) | with_reducible refine ah (by first | omega | grind [bz]) ?_ | with_reducible refine aA ?_ | with_reducible refine bF ?_ | with_reducible refine bR ?_ | with_reducible refine bN ?_ | with_reducible refine bS ?_ | with_reducible refine af ?_ | exact hr)
abbrev GS:=List ByteArray×(List (ByteArray×Int))×List Int×(List (bI×Unit))×(List (ByteArray×(List Int)))×Int
abbrev BS:=List ByteArray×List Int×(List (List Int))×List Int×List Int×Int
def zD (g:aO) (x:Int):GS:=(g.keys,g.at_,g.types,g.facts,g.incs,x)
def uA (b:az) (x:Int):BS:=(b.keys,b.types,b.wrote,b.incs,b.last_,x)
def Go1 (i n:Nat):GS ⊕ (Int ⊕ Int)→(List Call×Int) ⊕ (BS ⊕ Int)→Prop
 | .inl s,.inr (.inl t)=>∃ g b,s=zD g ((i + 1:Nat):Int)∧t=uA b ((i + 1:Nat):Int)∧Sim g b n
 | .inr (.inr a),.inr (.inr b)=>a=1∧b=1
 | _,_=>False
theorem enters {g:aO} {b:az} {n i:Nat} {l:List Call} {y:Event×Bool} (h:Sim g b n) (hy:y.1.Calls=l) (hl:l.length≤16) (hi:i < 64) (hn:n≤1024) (hc:oN l (fun c=>1≤c.Kind∧c.Kind≤8)) :
  Tri (iter (lw (i:Int) y) (zD g 0)) (fun x=>Tri (iter (dU (i:Int) l) (uA b 0)) (Go1 i (n + 16) x)):=by
 refine yw l.length (fun k s t=>∃ g b,s=zD g (k:Int)∧t=uA b (k:Int)∧Sim g b (n + k)) (Nat.zero_le _) ⟨g,b,rfl,rfl,h⟩ ?_;rintro k s t hk ⟨g,b,rfl,rfl,hS⟩;unfold lw dU zD uA
 dsimp only
 rw [hy]
 refine aj (fun h => ?_) (fun h => ?_)
 ·refine ah (by omega) ?_;obtain ⟨r,hr,r',hr',hb⟩:=AR (who:=(i:Int)) hS (hc k (by omega)).1 (hc k (by omega)).2 (by omega) (by omega);refine dG hr ?_;have hw:w64 ((k:Int) + 1)=((k + 1:Nat):Int):=bq (by omega)
  rw [hw]
  repeat' (first | contradiction | with_reducible refine aj (fun hq => ?_) (fun hq => ?_) | with_reducible refine ah (by first | omega | grind [bz]) ?_ | with_reducible refine aA ?_ | with_reducible refine bF ?_ | with_reducible refine bR ?_ | with_reducible refine bN ?_ | with_reducible refine bS ?_ | with_reducible refine af ?_ | refine dG hr' ?_)
  ·exact ⟨rfl,rfl⟩
  ·exact absurd (by rw [hb.1]; omega) ‹r.1≠0›
  ·exact absurd (by rw [← hb.1]; omega) ‹r'.1≠0›
  ·exact ⟨by omega,r.2,r'.2,rfl,rfl,hb.2 (by omega)⟩
 ·have hw:w64 ((i:Int) + 1)=((i + 1:Nat):Int):=bq (by omega)
  rw [hw]
  repeat' (first | contradiction | with_reducible refine aj (fun hq => ?_) (fun hq => ?_) | with_reducible refine ah (by first | omega | grind [bz]) ?_ | with_reducible refine aA ?_ | with_reducible refine bF ?_ | with_reducible refine bR ?_ | with_reducible refine bN ?_ | with_reducible refine bS ?_ | with_reducible refine af ?_)
  exact ⟨g,b,rfl,rfl,hS.mono (by omega)⟩
theorem yL {h:History} {i:Nat} {b:az} {Q:BS ⊕ Int→Prop} (hi:i < h.Txns.length) (hs:wY (idx h.Txns (i:Int))) (a2:(idx h.Txns (i:Int)).Ops.length≤16)
  (h1:¬ (qF h (idx h.Txns (i:Int))∧tT (sZ h (idx h.Txns (i:Int))))→Q (.inr 1))
  (h2:qF h (idx h.Txns (i:Int))→tT (sZ h (idx h.Txns (i:Int)))→Tri (iter (dU (i:Int) (bQ h (idx h.Txns (i:Int)))) (uA b 0)) (fun x=>match x with | .inl _=>False | .inr y=>Q y)) :
  Tri (iter (dV h b.keys b.types b.wrote b.incs b.last_ (i:Int)) ([],0)) Q:=by
 generalize ht:idx h.Txns (i:Int)=t at hs a2 h1 h2;refine wP t.Ops.length (fun k l=>l=(bQ h t).take k∧∀ j:Nat,j < k→0≤(idx t.Ops (j:Int)).Key∧(idx t.Ops (j:Int)).Key < (h.Keys.length:Int)) ⟨rfl,by omega⟩ ?_
 rintro k l hk ⟨rfl,hJ⟩;have hlen:((bQ h t).take k).length=k:=by simp [bQ]; omega
 unfold dV jQ mU
 simp only [cond_true,cond_false,hlen,ht]
 have hsm:=wG (e:=⟨0,t.Status,(bQ h t).take k⟩) (hs.small k);have hfull:k=t.Ops.length→(bQ h t).take k=bQ h t:=fun e=>List.take_of_length_le (by simp [bQ]; omega);have hnext:k < t.Ops.length→(bQ h t).take (k + 1)=(bQ h t).take k++[rF h (idx t.Ops (k:Int))]:=fun hk=>by
  rw [mD (by simpa [bQ] using hk),bQ,sJ hk]
 have hw:w64 ((k:Int) + 1)=((k + 1:Nat):Int):=bq (by omega)
 rw [hw]
 repeat' (first | contradiction | with_reducible refine aj (fun hq => ?_) (fun hq => ?_) | with_reducible refine ah (by first | omega | grind [bz]) ?_ | with_reducible refine aA ?_ | with_reducible refine bF ?_ | with_reducible refine bR ?_ | with_reducible refine bN ?_ | with_reducible refine bS ?_ | with_reducible refine af ?_ | refine bH hsm (fun r hr => ?_))
 ·grind [Up2,qF,oN]
 ·grind [Up2,qF,oN]
 ·grind [Up2,rF]
 ·have a1:k=t.Ops.length:=by omega
  rw [hfull a1] at hr
  refine h1 (fun hh => ?_);have:=hr.1.2 hh.2
  contradiction
 ·have a1:k=t.Ops.length:=by omega
  rw [hfull a1] at hr ⊢
  have hK:qF _ t:=fun j hj=>hJ j (by omega);refine dA (h2 hK (hr.1.1 (by omega))) ?_;rintro (x | y) hxy
  ·exact hxy.elim
  ·exact hxy
def uB (h:History) (i:Nat):Prop:=rG h.Txns i∧qF h (idx h.Txns (i:Int))∧tT (sZ h (idx h.Txns (i:Int)))
def nZ (h:History):Prop:=h.Keys.length * 16≤140737488351232∧h.Txns.length * 56≤140737488351232∧oN h.Txns wY
theorem Cz {h:History} (hs:nZ h) (hN:lQ h.Keys) (a9:h.Txns.length≤32) :
  Tri (iter (jI h) (zD ⟨[],[],[],[],[]⟩ 0)) (fun x=>Tri (iter (iq h) (uA ⟨[],[],[],[],[]⟩ 0)) (fun y=>(∃ v,x = .inr v∧v=y)∧(y=0∨y=1))):=by
 obtain ⟨a8,b0,a2⟩:=hs;refine yw h.Txns.length (fun k s t=>∃ g b,s=zD g (k:Int)∧t=uA b (k:Int)∧Sim g b (k * 16)∧∀ j:Nat,j < k→uB h j) (Nat.zero_le _) ⟨_,_,rfl,rfl,Sim.start,fun j hj=>absurd hj (Nat.not_lt_zero _)⟩ ?_;rintro k s t hk ⟨g,b,rfl,rfl,hS,hJ⟩;unfold jI lC iq ik zD uA
 simp only [cond_true,cond_false]
 refine aj (fun a6 => ?_) (fun a6 => ?_)
 ·have a1:k < h.Txns.length:=by omega
  obtain ⟨r,hr,a4,a7⟩:=vD (h:=h) (a2 k a1);obtain ⟨p,hp,a5⟩:=uz (l:=h.Txns) a1 (by omega);obtain ⟨p',hp',hp1'⟩:=qP (l:=h.Txns) a1 (by omega);have hco:tT (sZ h (idx h.Txns (k:Int)))→(idx h.Txns (k:Int)).Ops.length≤16:=fun he=>by
   have:=he.2.2.1
   simpa [sZ,bQ] using this
  refine ah (by omega) (dG hr ?_)
  by_cases hok:uB h k
  ·have e1:r.2=true:=a4.2 ⟨hok.2.1,hok.2.2⟩;have e2:p=true:=a5.2 hok.1;have e3:p'=true:=hp1'.2 hok.1;have hc:oN (bQ h (idx h.Txns (k:Int))) (fun c=>1≤c.Kind∧c.Kind≤8):=fun j hj=>⟨(hok.2.2.2.2.2 j hj).1,(hok.2.2.2.2.2 j hj).2.1⟩;obtain ⟨x,hx,y,hy,hxy⟩:=enters (y:=r) (i:=k) hS (congrArg Event.Calls (a7 e1)) hok.2.2.2.2.1 (by omega) (by omega) hc;refine aj (fun h=>absurd e1 h) (fun _ => ?_);refine ah (by omega) (dG hp ?_);refine aj (fun h=>absurd e2 h) (fun _ => ?_);refine ⟨x,hx,?_⟩
   repeat' (first | contradiction | with_reducible refine aj (fun hq => ?_) (fun hq => ?_) | with_reducible refine ah (by first | omega | grind [bz]) ?_ | with_reducible refine aA ?_ | with_reducible refine bF ?_ | with_reducible refine bR ?_ | with_reducible refine bN ?_ | with_reducible refine bS ?_ | with_reducible refine af ?_ | refine dG hp' ?_)
   ·exact absurd (hco hok.2.2) (by omega)
   ·refine yL a1 (a2 k a1) (hco hok.2.2) (fun hn=>absurd ⟨hok.2.1,hok.2.2⟩ hn) (fun _ _=>⟨y,hy,?_⟩);rcases x with s | a | a <;> rcases y with t | t | t
    ·exact hxy.elim
    ·obtain ⟨g',b',rfl,rfl,hS'⟩:=hxy;refine ⟨by omega,g',b',rfl,rfl,(show k * 16 + 16=(k + 1) * 16 by omega) ▸ hS',fun j hj => ?_⟩
     rcases Nat.lt_or_ge j k with h1 | h1
     ·exact hJ j h1
     ·rw [show j=k by omega]; exact hok
    ·exact hxy.elim
    ·exact hxy.elim
    ·exact hxy.elim
    ·exact hxy.elim
    ·exact hxy.elim
    ·exact hxy.elim
    ·obtain ⟨rfl,rfl⟩:=hxy;exact ⟨⟨1,rfl,rfl⟩,.inr rfl⟩
  ·have h1:Tri (iter (dV h b.keys b.types b.wrote b.incs b.last_ (k:Int)) ([],0)) (fun y=>p'=true→(idx h.Txns (k:Int)).Ops.length≤16→y = .inr 1) ∨ ¬ ((idx h.Txns (k:Int)).Ops.length≤16) ∨ ¬ p'=true:=by
    by_cases a3:(idx h.Txns (k:Int)).Ops.length≤16
    ·by_cases h3:p'=true
     ·refine .inl (yL a1 (a2 k a1) a3 (fun _ _ _=>rfl) (fun q1 q2=>absurd ⟨hp1'.1 h3,q1,q2⟩ hok))
     ·exact .inr (.inr h3)
    ·exact .inr (.inl a3)
   have hend:Tri (aI h.Txns (k:Int)) (fun y=>Tri (bif !y then (out (some 1):Option (BS ⊕ Int)) else bif decide ((((idx h.Txns (k:Int)).Ops).length:Int) > 16) then out (some 1) else iter (dV h b.keys b.types b.wrote b.incs b.last_ (k:Int)) ([],0)) (fun y=>y = .inr 1)):=by
    refine ⟨p',hp',?_⟩
    repeat' (first | contradiction | with_reducible refine aj (fun hq => ?_) (fun hq => ?_) | with_reducible refine ah (by first | omega | grind [bz]) ?_ | with_reducible refine aA ?_ | with_reducible refine bF ?_ | with_reducible refine bR ?_ | with_reducible refine bN ?_ | with_reducible refine bS ?_ | with_reducible refine af ?_)
    ·rfl
    ·rfl
    ·rcases h1 with h1 | h1 | h1
     ·exact dA h1 (fun y hy=>hy (Decidable.of_not_not ‹¬¬p'=true›) (by omega))
     ·omega
     ·contradiction
   have hend2:∀ {Q:BS ⊕ Int→Prop},Q (.inr 1)→Tri ((aI h.Txns (k:Int)).bind fun y=>bif !y then (out (some 1):Option (BS ⊕ Int)) else bif decide ((((idx h.Txns (k:Int)).Ops).length:Int) > 16) then out (some 1) else iter (dV h b.keys b.types b.wrote b.incs b.last_ (k:Int)) ([],0)) Q:=by
    intro Q hQ;refine bH hend (fun y hy=>dA hy ?_);rintro _ rfl;exact hQ
   repeat' (first | contradiction | with_reducible refine aj (fun hq => ?_) (fun hq => ?_) | with_reducible refine ah (by first | omega | grind [bz]) ?_ | with_reducible refine aA ?_ | with_reducible refine bF ?_ | with_reducible refine bR ?_ | with_reducible refine bN ?_ | with_reducible refine bS ?_ | with_reducible refine af ?_ | refine dG hp ?_)
   ·refine hend2 ?_;exact ⟨⟨1,rfl,rfl⟩,.inr rfl⟩
   ·refine hend2 ?_;exact ⟨⟨1,rfl,rfl⟩,.inr rfl⟩
   ·exact absurd ⟨a5.1 (by grind),a4.1 (by grind)⟩ hok
 ·repeat' (first | contradiction | with_reducible refine aj (fun hq => ?_) (fun hq => ?_) | with_reducible refine ah (by first | omega | grind [bz]) ?_ | with_reducible refine aA ?_ | with_reducible refine bF ?_ | with_reducible refine bR ?_ | with_reducible refine bN ?_ | with_reducible refine bS ?_ | with_reducible refine af ?_)
  exact ⟨⟨0,rfl,rfl⟩,.inl rfl⟩
theorem vF {h:History} (hs:nZ h):Tri (aG h) (fun v=>Tri (ak h) (fun v'=>v=v'∧(v=0∨v=1))):=by
 obtain ⟨a2,a4,a3⟩:=hs;obtain ⟨y,hy,hn⟩:=wZ (l:=h.Keys) (by omega);have hT:=fun hN a1=>Cz (h:=h) ⟨a2,a4,a3⟩ hN a1;have hfail:¬ (lQ h.Keys∧h.Txns.length≤32)→ak h=some 1:=by
  intro hno;refine kC.1 ?_;unfold ak fu
  simp only [cond_true,cond_false]
  repeat' (first | contradiction | with_reducible refine aj (fun hq => ?_) (fun hq => ?_) | with_reducible refine ah (by first | omega | grind [bz]) ?_ | with_reducible refine aA ?_ | with_reducible refine bF ?_ | with_reducible refine bR ?_ | with_reducible refine bN ?_ | with_reducible refine bS ?_ | with_reducible refine af ?_ | refine dG hy ?_)
  ·rfl
  ·rfl
  ·exact absurd ⟨hn.1 (Decidable.of_not_not ‹¬¬y=true›),by omega⟩ hno
 have hgood:lQ h.Keys→h.Txns.length≤32→Tri (iter (jI h) (zD ⟨[],[],[],[],[]⟩ 0)) (fun x=>Tri (ak h) (fun v'=>x = .inr v'∧(v'=0∨v'=1))):=by
  intro hN a1;refine dA (hT hN a1) (fun x hx => ?_);unfold ak fu
  simp only [cond_true,cond_false]
  have:=hn.2 hN
  repeat' (first | contradiction | with_reducible refine aj (fun hq => ?_) (fun hq => ?_) | with_reducible refine ah (by first | omega | grind [bz]) ?_ | with_reducible refine aA ?_ | with_reducible refine bF ?_ | with_reducible refine bR ?_ | with_reducible refine bN ?_ | with_reducible refine bS ?_ | with_reducible refine af ?_ | refine dG hy ?_)
  ·omega
  ·refine dA hx (fun v hv => ?_);obtain ⟨⟨v2,rfl,rfl⟩,h2⟩:=hv;exact ⟨rfl,h2⟩
 have hbad:¬ (lQ h.Keys∧h.Txns.length≤32)→Tri (ak h) (fun v'=>(1:Int)=v'∧((1:Int)=0∨(1:Int)=1)):=fun hno=>⟨1,hfail hno,rfl,.inr rfl⟩;unfold aG lD
 simp only [cond_true,cond_false]
 repeat' (first | contradiction | with_reducible refine aj (fun hq => ?_) (fun hq => ?_) | with_reducible refine ah (by first | omega | grind [bz]) ?_ | with_reducible refine aA ?_ | with_reducible refine bF ?_ | with_reducible refine bR ?_ | with_reducible refine bN ?_ | with_reducible refine bS ?_ | with_reducible refine af ?_)
 ·exact hbad (fun hh=>by have:=hh.1.1; omega)
 ·exact hbad (fun hh=>by have:=hh.2; omega)
 ·refine lV h.Keys.length (tV h.Keys) ?_;intro k hk hJ;unfold nS jH
  simp only [cond_true,cond_false]
  have hf:k < h.Keys.length→Tri (slices_Contains_string (bV h.Keys 0 (k:Int)) (idx h.Keys (k:Int))) (fun r=>r=true↔∃ j:Nat,j < k∧idx h.Keys (j:Int)=idx h.Keys (k:Int)):=by
   intro hk'
   rw [kX (by omega)]
   refine dA (xX (by simp; omega)) (fun r hr => ?_);have ht:(h.Keys.take k).length=k:=by simp; omega
   have hx:∀ j:Nat,j < k→idx (h.Keys.take k) (j:Int)=idx h.Keys (j:Int):=fun j h=>oo h
   rw [ht] at hr
   grind
  have he:=yh (k:=idx h.Keys (k:Int));have hw:w64 ((k:Int) + 1)=((k + 1:Nat):Int):=bq (by omega)
  rw [hw]
  have hNk:tV h.Keys k↔(1≤(idx h.Keys (k:Int)).size∧(idx h.Keys (k:Int)).size≤32∧∀ j:Nat,j < k→idx h.Keys (j:Int)≠idx h.Keys (k:Int)):=Iff.rfl;have hno:k < h.Keys.length → ¬ tV h.Keys k → ¬ (lQ h.Keys∧h.Txns.length≤32):=fun h1 h2 h3=>h2 (h3.1.2 k h1);refine aj (fun a5 => ?_) (fun a5 => ?_)
  ·refine ah (by omega) ?_
   repeat' (first | contradiction | with_reducible refine aj (fun hq => ?_) (fun hq => ?_) | with_reducible refine ah (by first | omega | grind [bz]) ?_ | with_reducible refine aA ?_ | with_reducible refine bF ?_ | with_reducible refine bR ?_ | with_reducible refine bN ?_ | with_reducible refine bS ?_ | with_reducible refine af ?_ | refine bH (hf (by omega)) (fun r hr => ?_))
   ·exact hbad (hno (by omega) (by grind))
   ·exact hbad (hno (by omega) (by grind))
   ·exact hbad (hno (by omega) (by grind))
   ·exact ⟨rfl,by omega,by grind⟩
  ·have hN:lQ h.Keys:=⟨by omega,fun i hi=>hJ i (by omega)⟩
   unfold kH;refine bF ?_;obtain ⟨x,hx,v,hv,hq⟩:=hgood hN (by omega);obtain ⟨rfl,h2⟩:=hq;exact ⟨_,hx,v,hv,rfl,h2⟩
end Go.Proofs.YtmfgddafcgflaaaT
namespace Go.Proofs.YtmfgddafcgflaaaT
open Go Go.Proofs Go.Proofs.YtmfgddafcgflaaaE
set_option linter.unusedVariables false
set_option linter.unusedSimpArgs false
def lS (l:List Int) (c:Call) (w:Int) (s:ByteArray):List Int:=if c.Kind=4∧c.Key=s∧(l.length=0∨idx l ((l.length - 1:Nat):Int)≠w) then l++[w] else l
def jd (E:List (Call×Int)) (s:ByteArray):List Int:=E.foldl (fun l e=>lS l e.1 e.2 s) []
theorem vG {E:List (Call×Int)} {c:Call} {w:Int} {s:ByteArray}:jd (E++[(c,w)]) s=lS (jd E s) c w s:=by
 unfold jd; rw [List.foldl_append]; rfl
theorem og {l:List Int} {c:Call} {w:Int} {s:ByteArray} (h:¬ (c.Kind=4∧c.Key=s)):lS l c w s=l:=by
 unfold lS; rw [if_neg (fun hh=>h ⟨hh.1,hh.2.1⟩)]
def Dx (E:List (Call×Int)) (c:Call) (w:Int):Prop :=
 ((c.Kind=2∨c.Kind=3)→∀ e ∈ E,e.1.Key=c.Key→(e.1.Kind=2∨e.1.Kind=3)→e.1.Arg≠c.Arg)∧(c.Kind=4→(lS (jd E c.Key) c w c.Key).length≤8)
def BN (E:List (Call×Int)) (c:Call) (w:Int):Prop:=(∀ e ∈ E,e.1.Key=c.Key→typ e.1.Kind=typ c.Kind)∧Dx E c w
structure BookInv0 (E:List (Call×Int)) (b:az):Prop where
 tl:b.types.length=b.keys.length
 wl:b.wrote.length=b.keys.length
 il:b.incs.length=b.keys.length
 ll:b.last_.length=b.keys.length
 nd:∀ i j:Nat,i < b.keys.length→j < b.keys.length→idx b.keys (i:Int)=idx b.keys (j:Int)→i=j
 ks:∀ e ∈ E,∃ j:Nat,j < b.keys.length∧idx b.keys (j:Int)=e.1.Key
 ty:∀ e ∈ E,∀ j:Nat,j < b.keys.length→idx b.keys (j:Int)=e.1.Key→idx b.types (j:Int)=typ e.1.Kind
 wr:∀ j:Nat,j < b.keys.length→∀ a,(∃ m:Nat,m < (idx b.wrote (j:Int)).length∧idx (idx b.wrote (j:Int)) (m:Int)=a)↔∃ e ∈ E,e.1.Key=idx b.keys (j:Int)∧(e.1.Kind=2∨e.1.Kind=3)∧e.1.Arg=a
 wn:∀ j:Nat,j < b.keys.length→(idx b.wrote (j:Int)).length≤E.length
 ic:∀ j:Nat,j < b.keys.length→idx b.incs (j:Int)=((jd E (idx b.keys (j:Int))).length:Int)
 i8:∀ j:Nat,j < b.keys.length→(jd E (idx b.keys (j:Int))).length≤8
 io:∀ s,(∀ j:Nat,j < b.keys.length→idx b.keys (j:Int)≠s)→jd E s=[]
 la:∀ j:Nat,j < b.keys.length→((jd E (idx b.keys (j:Int))).length=0→idx b.last_ (j:Int) = -1) ∧
  (0 < (jd E (idx b.keys (j:Int))).length→idx b.last_ (j:Int)=idx (jd E (idx b.keys (j:Int))) (((jd E (idx b.keys (j:Int))).length - 1:Nat):Int))
theorem BookInv0.start:BookInv0 [] ⟨[],[],[],[],[]⟩:=by
 refine ⟨rfl,rfl,rfl,rfl,?_,?_,?_,?_,?_,?_,?_,?_,?_⟩
 all_goals simp [jd]
theorem BookInv0.new {E:List (Call×Int)} {b:az} (h:BookInv0 E b) {s:ByteArray} {t:Int} (hn:∀ j:Nat,j < b.keys.length→idx b.keys (j:Int)≠s) :
  BookInv0 E ⟨b.keys++[s],b.types++[t],b.wrote++[[]],b.incs++[0],b.last_++[-1]⟩:=by
 have hl:(b.keys++[s]).length=b.keys.length + 1:=by simp
 have k1:∀ j:Nat,j < b.keys.length→idx (b.keys++[s]) (j:Int)=idx b.keys (j:Int):=fun j hj=>iR hj;have k2:idx (b.keys++[s]) ((b.keys.length:Nat):Int)=s:=gG rfl;have t1:∀ j:Nat,j < b.keys.length→idx (b.types++[t]) (j:Int)=idx b.types (j:Int):=fun j hj=>iR (by rw [h.tl]; exact hj);have w1:∀ j:Nat,j < b.keys.length→idx (b.wrote++[[]]) (j:Int)=idx b.wrote (j:Int):=fun j hj=>iR (by rw [h.wl]; exact hj);have w2:idx (b.wrote++[[]]) ((b.keys.length:Nat):Int)=[]:=gG h.wl.symm;have i1:∀ j:Nat,j < b.keys.length→idx (b.incs++[0]) (j:Int)=idx b.incs (j:Int):=fun j hj=>iR (by rw [h.il]; exact hj);have i2:idx (b.incs++[0]) ((b.keys.length:Nat):Int)=0:=gG h.il.symm;have l1:∀ j:Nat,j < b.keys.length→idx (b.last_++[-1]) (j:Int)=idx b.last_ (j:Int):=fun j hj=>iR (by rw [h.ll]; exact hj);have l2:idx (b.last_++[-1]) ((b.keys.length:Nat):Int) = -1:=gG h.ll.symm;have ho:=h.io s hn;have hne:∀ e ∈ E,e.1.Key≠s:=fun e he hs=>by
  obtain ⟨j,hj,hk⟩:=h.ks e he;exact hn j hj (hk.trans hs)
 have cut:∀ j:Nat,j < b.keys.length + 1→j < b.keys.length∨j=b.keys.length:=by omega
 refine ⟨by simp [h.tl],by simp [h.wl],by simp [h.il],by simp [h.ll],?_,?_,?_,?_,?_,?_,?_,?_,?_⟩
 ·intro i j hi hj he
  dsimp only at hi hj he
  rw [hl] at hi hj
  have:=h.nd i j;rcases cut i hi with hi' | hi' <;> rcases cut j hj with hj' | hj' <;> grind
 ·intro e he;obtain ⟨j,hj,hk⟩:=h.ks e he;exact ⟨j,by simp; omega,(k1 j hj).trans hk⟩
 ·intro e he j hj hk
  dsimp only at hj hk ⊢
  rw [hl] at hj
  rcases cut j hj with hj' | hj'
  ·rw [k1 j hj'] at hk; rw [t1 j hj']; exact h.ty e he j hj' hk
  ·subst hj'; rw [k2] at hk; exact absurd hk.symm (hne e he)
 ·intro j hj a
  dsimp only at hj ⊢
  rw [hl] at hj
  rcases cut j hj with hj' | hj'
  ·rw [k1 j hj',w1 j hj']; exact h.wr j hj' a
  ·subst hj'
   rw [k2,w2]
   constructor
   ·rintro ⟨m,hm,_⟩; simp at hm
   ·rintro ⟨e,he,hk,_⟩; exact absurd hk (hne e he)
 ·intro j hj
  dsimp only at hj ⊢
  rw [hl] at hj
  rcases cut j hj with hj' | hj'
  ·rw [w1 j hj']; exact h.wn j hj'
  ·subst hj'; rw [w2]; simp
 ·intro j hj
  dsimp only at hj ⊢
  rw [hl] at hj
  rcases cut j hj with hj' | hj'
  ·rw [k1 j hj',i1 j hj']; exact h.ic j hj'
  ·subst hj'; rw [k2,i2,ho]; rfl
 ·intro j hj
  dsimp only at hj ⊢
  rw [hl] at hj
  rcases cut j hj with hj' | hj'
  ·rw [k1 j hj']; exact h.i8 j hj'
  ·subst hj'; rw [k2,ho]; simp
 ·intro x hx
  dsimp only at hx ⊢
  rw [hl] at hx
  exact h.io x (fun j hj=>by rw [← k1 j hj]; exact hx j (by omega))
 ·intro j hj
  dsimp only at hj ⊢
  rw [hl] at hj
  rcases cut j hj with hj' | hj'
  ·rw [k1 j hj',l1 j hj']; exact h.la j hj'
  ·subst hj'; rw [k2,l2,ho]; simp
theorem eU {E:List (Call×Int)} {c:Call} {w:Int} {e:Call×Int}:e ∈ E++[(c,w)]↔e ∈ E∨e=(c,w):=by simp
theorem BookInv0.same {E:List (Call×Int)} {b:az} {c:Call} {w:Int} {k:Nat} (h:BookInv0 E b) (hk:k < b.keys.length) (hs:idx b.keys (k:Int)=c.Key) (ht:idx b.types (k:Int)=typ c.Kind)
  (h2:c.Kind≠2) (h3:c.Kind≠3) (hw:lS (jd E c.Key) c w c.Key=jd E c.Key):BookInv0 (E++[(c,w)]) b:=by
 have hws:∀ s,jd (E++[(c,w)]) s=jd E s:=fun s=>by
  rw [vG]
  by_cases e:c.Kind=4∧c.Key=s
  ·rw [← e.2]; exact hw
  ·exact og e
 refine ⟨h.tl,h.wl,h.il,h.ll,h.nd,?_,?_,?_,?_,?_,?_,?_,?_⟩
 ·intro e he;rcases eU.1 he with he | rfl
  ·exact h.ks e he
  ·exact ⟨k,hk,hs⟩
 ·intro e he j hj hkj;rcases eU.1 he with he | rfl
  ·exact h.ty e he j hj hkj
  ·have:=h.nd j k hj hk (hkj.trans hs.symm);subst this;exact ht
 ·intro j hj a
  rw [h.wr j hj a]
  constructor
  ·rintro ⟨e,he,r⟩; exact ⟨e,eU.2 (.inl he),r⟩
  ·rintro ⟨e,he,r⟩;rcases eU.1 he with he | rfl
   ·exact ⟨e,he,r⟩
   ·rcases r.2.1 with r | r <;> contradiction
 ·intro j hj;have:=h.wn j hj
  simp; omega
 ·intro j hj; rw [hws]; exact h.ic j hj
 ·intro j hj; rw [hws]; exact h.i8 j hj
 ·intro s hs'; rw [hws]; exact h.io s hs'
 ·intro j hj; rw [hws]; exact h.la j hj
theorem BookInv0.write {E:List (Call×Int)} {b:az} {c:Call} {w:Int} {k:Nat} (h:BookInv0 E b) (hk:k < b.keys.length) (hs:idx b.keys (k:Int)=c.Key) (ht:idx b.types (k:Int)=typ c.Kind)
  (a1:c.Kind=2∨c.Kind=3):BookInv0 (E++[(c,w)]) ⟨b.keys,b.types,b.wrote.set k (idx b.wrote (k:Int)++[c.Arg]),b.incs,b.last_⟩:=by
 have hws:∀ s,jd (E++[(c,w)]) s=jd E s:=fun s=>by
  rw [vG]
  exact og (fun e=>by omega)
 have w1:∀ j:Nat,idx (b.wrote.set k (idx b.wrote (k:Int)++[c.Arg])) (j:Int)=if j=k then idx b.wrote (k:Int)++[c.Arg] else idx b.wrote (j:Int):=fun j=>oq (by rw [h.wl]; exact hk);refine ⟨h.tl,by simp [h.wl],h.il,h.ll,h.nd,?_,?_,?_,?_,?_,?_,?_,?_⟩
 ·intro e he;rcases eU.1 he with he | rfl
  ·exact h.ks e he
  ·exact ⟨k,hk,hs⟩
 ·intro e he j hj hkj;rcases eU.1 he with he | rfl
  ·exact h.ty e he j hj hkj
  ·have:=h.nd j k hj hk (hkj.trans hs.symm);subst this;exact ht
 ·intro j hj a
  dsimp only at hj ⊢
  rw [w1 j]
  have hold:=h.wr j hj a
  by_cases e:j=k
  ·subst e
   rw [if_pos rfl]
   constructor
   ·rintro ⟨m,hm,he⟩;rcases Nat.lt_or_ge m (idx b.wrote (j:Int)).length with h1 | h1
    ·rw [iR h1] at he
     obtain ⟨e,he',r⟩:=hold.1 ⟨m,h1,he⟩;exact ⟨e,eU.2 (.inl he'),r⟩
    ·simp at hm
     rw [gG (by omega)] at he
     exact ⟨(c,w),eU.2 (.inr rfl),hs.symm,a1,he⟩
   ·rintro ⟨e,he,r⟩;rcases eU.1 he with he | rfl
    ·obtain ⟨m,hm,hh⟩:=hold.2 ⟨e,he,r⟩;exact ⟨m,by simp; omega,(iR hm).trans hh⟩
    ·exact ⟨_,by simp,(gG rfl).trans r.2.2⟩
  ·rw [if_neg e,hold]
   constructor
   ·rintro ⟨e,he,r⟩; exact ⟨e,eU.2 (.inl he),r⟩
   ·rintro ⟨e',he,r⟩;rcases eU.1 he with he | rfl
    ·exact ⟨e',he,r⟩
    ·exact absurd (h.nd j k hj hk (r.1.symm.trans hs.symm)) e
 ·intro j hj
  dsimp only at hj ⊢
  rw [w1 j]
  have:=h.wn j hj
  split
  ·rename_i e; subst e; simp; omega
  ·simp; omega
 ·intro j hj; rw [hws]; exact h.ic j hj
 ·intro j hj; rw [hws]; exact h.i8 j hj
 ·intro s hs'; rw [hws]; exact h.io s hs'
 ·intro j hj; rw [hws]; exact h.la j hj
theorem BookInv0.inc {E:List (Call×Int)} {b:az} {c:Call} {w:Int} {k:Nat} (h:BookInv0 E b) (hk:k < b.keys.length) (hs:idx b.keys (k:Int)=c.Key) (ht:idx b.types (k:Int)=typ c.Kind)
  (h4:c.Kind=4) (hw:lS (jd E c.Key) c w c.Key=jd E c.Key++[w]) (h8:(jd E c.Key).length + 1≤8) :
  BookInv0 (E++[(c,w)]) ⟨b.keys,b.types,b.wrote,b.incs.set k (idx b.incs (k:Int) + 1),b.last_.set k w⟩:=by
 have hws:∀ s,jd (E++[(c,w)]) s=if c.Key=s then jd E s++[w] else jd E s:=fun s=>by
  rw [vG]
  by_cases e:c.Key=s
  ·rw [if_pos e,← e]; exact hw
  ·rw [if_neg e]; exact og (fun hh=>e hh.2)
 have i1:∀ j:Nat,idx (b.incs.set k (idx b.incs (k:Int) + 1)) (j:Int)=if j=k then idx b.incs (k:Int) + 1 else idx b.incs (j:Int):=fun j=>oq (by rw [h.il]; exact hk);have l1:∀ j:Nat,idx (b.last_.set k w) (j:Int)=if j=k then w else idx b.last_ (j:Int):=fun j=>oq (by rw [h.ll]; exact hk);have hne:∀ j:Nat,j < b.keys.length→(c.Key=idx b.keys (j:Int)↔j=k):=fun j hj=>⟨fun e=>h.nd j k hj hk (e.symm.trans hs.symm),fun e=>by rw [e,hs]⟩
 refine ⟨h.tl,h.wl,by simp [h.il],by simp [h.ll],h.nd,?_,?_,?_,?_,?_,?_,?_,?_⟩
 ·intro e he;rcases eU.1 he with he | rfl
  ·exact h.ks e he
  ·exact ⟨k,hk,hs⟩
 ·intro e he j hj hkj;rcases eU.1 he with he | rfl
  ·exact h.ty e he j hj hkj
  ·have:=h.nd j k hj hk (hkj.trans hs.symm);subst this;exact ht
 ·intro j hj a
  dsimp only at hj ⊢
  rw [h.wr j hj a]
  constructor
  ·rintro ⟨e,he,r⟩; exact ⟨e,eU.2 (.inl he),r⟩
  ·rintro ⟨e,he,r⟩;rcases eU.1 he with he | rfl
   ·exact ⟨e,he,r⟩
   ·have:=r.2.1; dsimp only at this; omega
 ·intro j hj;have:=h.wn j hj
  simp; omega
 ·intro j hj
  dsimp only at hj ⊢
  have:=h.ic j hj
  rw [hws,i1 j]
  by_cases e:j=k
  ·rw [if_pos e,if_pos ((hne j hj).2 e)]; subst e; simp; omega
  ·rw [if_neg e,if_neg (fun hh=>e ((hne j hj).1 hh))]; exact this
 ·intro j hj
  dsimp only at hj ⊢
  rw [hws]
  by_cases e:j=k
  ·rw [if_pos ((hne j hj).2 e)]; subst e; rw [hs]; simp; omega
  ·rw [if_neg (fun hh=>e ((hne j hj).1 hh))]; exact h.i8 j hj
 ·intro s hs'
  dsimp only at hs'
  rw [hws,if_neg (fun e=>hs' k hk (hs.trans e))]
  exact h.io s hs'
 ·intro j hj
  dsimp only at hj ⊢
  rw [hws,l1 j]
  by_cases e:j=k
  ·rw [if_pos e,if_pos ((hne j hj).2 e)]
   refine ⟨fun h0=>by simp at h0,fun _ => ?_⟩
   rw [gG (by simp)]
  ·rw [if_neg e,if_neg (fun hh=>e ((hne j hj).1 hh))]; exact h.la j hj
theorem BO {E:List (Call×Int)} {b:az} {c:Call} {w:Int} {k:Nat} (h:BookInv0 E b) (hk:k < b.keys.length) (hs:idx b.keys (k:Int)=c.Key) (ht:idx b.types (k:Int)=typ c.Kind)
  (h1:1≤c.Kind) (h8:c.Kind≤8) (hw:0≤w) (hE:E.length≤4096) :
  Tri (dC c w b.keys b.types b.wrote b.incs b.last_ (k:Int)) (fun r=>(r.1=0↔Dx E c w)∧(r.1=0→BookInv0 (E++[(c,w)]) r.2∧r.2.keys=b.keys∧r.2.types=b.types)):=by
 have hin:=h.ic k hk;have a1:=h.i8 k hk;have hla:=h.la k hk;have hwr:=h.wr k hk c.Arg;have hwn:=h.wn k hk
 rw [hs] at hin a1 hla hwr
 refine dA (yK (who:=w) hk h.tl h.wl h.il h.ll (by omega) (by omega) h1 h8) (fun r hr => ?_);have stay:∀ {l:List Int},lS (jd E c.Key) c w c.Key=l→l=if c.Kind=4∧((jd E c.Key).length=0∨idx (jd E c.Key) (((jd E c.Key).length - 1:Nat):Int)≠w) then jd E c.Key++[w] else jd E c.Key:=by
  rintro l rfl;unfold lS
  simp
 have st:=stay rfl;rcases hr with ⟨a,rfl⟩ | ⟨_,b1,b2,rfl⟩ | ⟨_,b1,b2,rfl⟩ | ⟨_,b1,b2,b3,b4⟩ | ⟨_,b1,b2,b3,rfl⟩ | ⟨_,b1,b2,rfl⟩ | ⟨_,b1,b2,b3,rfl⟩
 ·exact absurd ht a
 ·refine ⟨⟨fun h=>by simp at h,fun hh => ?_⟩,fun h=>by simp at h⟩
  obtain ⟨e,he,r1,r2,r3⟩:=hwr.1 b2;exact absurd r3 (hh.1 b1 e he r1 r2)
 ·refine ⟨⟨fun _=>⟨fun _ e he r1 r2 r3=>b2 (hwr.2 ⟨e,he,r1,r2,r3⟩),fun h4=>by omega⟩,fun _=>rfl⟩,fun _=>⟨h.write hk hs ht b1,rfl,rfl⟩⟩
 ·have hne:(jd E c.Key).length=0∨idx (jd E c.Key) (((jd E c.Key).length - 1:Nat):Int)≠w:=by grind
  rw [if_pos ⟨b1,hne⟩] at st
  refine ⟨⟨fun h0=>by omega,fun hh => ?_⟩,fun h0=>by omega⟩
  have:=hh.2 b1
  rw [st] at this
  simp at this
  omega
 ·have hne:(jd E c.Key).length=0∨idx (jd E c.Key) (((jd E c.Key).length - 1:Nat):Int)≠w:=by grind
  rw [if_pos ⟨b1,hne⟩] at st
  refine ⟨⟨fun _=>⟨fun h=>by omega,fun _=>by rw [st]; simp; omega⟩,fun _=>rfl⟩,fun _=>⟨h.inc hk hs ht b1 st (by omega),rfl,rfl⟩⟩
 ·have hne:¬ ((jd E c.Key).length=0∨idx (jd E c.Key) (((jd E c.Key).length - 1:Nat):Int)≠w):=by grind
  rw [if_neg (fun hh=>hne hh.2)] at st
  refine ⟨⟨fun _=>⟨fun h=>by omega,fun _=>by rw [st]; exact a1⟩,fun _=>rfl⟩,fun _=>⟨h.same hk hs ht (by omega) (by omega) st,rfl,rfl⟩⟩
 ·rw [if_neg (fun hh=>b3 hh.1)] at st
  refine ⟨⟨fun _=>⟨fun h=>by omega,fun h=>by omega⟩,fun _=>rfl⟩,fun _=>⟨h.same hk hs ht b1 b2 st,rfl,rfl⟩⟩
structure lT (E:List (Call×Int)) (b:az):Prop extends BookInv0 E b where
 len:b.keys.length≤32
 kex:∀ j:Nat,j < b.keys.length→∃ e ∈ E,e.1.Key=idx b.keys (j:Int)
theorem lT.start:lT [] ⟨[],[],[],[],[]⟩:=⟨BookInv0.start,by simp,fun j hj=>by simp at hj⟩
theorem CB {E:List (Call×Int)} {b:az} {c:Call} {w:Int} (h:lT E b) (hroom:b.keys.length=32→∃ j:Nat,j < b.keys.length∧idx b.keys (j:Int)=c.Key)
  (h1:1≤c.Kind) (h8:c.Kind≤8) (hw:0≤w) (hE:E.length≤4096) :
  Tri (ag b c w) (fun r=>(r.1=0↔BN E c w)∧(r.1=0→lT (E++[(c,w)]) r.2)):=by
 have hl:=h.len;have t1:=h.tl;have t2:=h.wl;have t3:=h.il;have t4:=h.ll;obtain ⟨r0,a6,hf⟩:=vE (l:=b.keys) (s:=c.Key) (by omega);unfold ag
 rw [a6]
 refine bF ?_;rcases hf with ⟨rfl,hno⟩ | ⟨k,rfl,a1,a2,_⟩
 ·refine aj (fun _ => ?_) (fun hh=>by omega);refine aj (fun a5 => ?_) (fun a5 => ?_)
  ·obtain ⟨j,hj,he⟩:=hroom (by omega);exact absurd he (hno j hj)
  ·have hn:=h.toBookInv0.new (s:=c.Key) (t:=typ c.Kind) hno;have hat:=BO (w:=w) hn (k:=b.keys.length) (by simp) (gG rfl) (gG t1.symm) h1 h8 hw hE;have hne:∀ e ∈ E,e.1.Key≠c.Key:=fun e he hs=>by
    obtain ⟨j,hj,hk⟩:=h.ks e he;exact hno j hj (hk.trans hs)
   unfold gM gL
   simp only [yJ h1 h8]
   refine ah (by omega) (bF (ah (by omega) (ah (by omega) (ah (by omega) (ah (by omega) ?_)))));refine dA hat (fun r hr => ?_);refine ⟨hr.1.trans ⟨fun hh=>⟨fun e he hs=>absurd hs (hne e he),hh⟩,fun hh=>hh.2⟩,fun h0 => ?_⟩;obtain ⟨q1,q2,q3⟩:=hr.2 h0;refine ⟨q1,by rw [q2]; simp; omega,fun j hj => ?_⟩
   rw [q2] at hj ⊢
   have hj:j < b.keys.length + 1:=by simpa using hj
   rcases (by omega:j < b.keys.length∨j=b.keys.length) with hj' | hj'
   ·obtain ⟨e,he,hk⟩:=h.kex j hj';exact ⟨e,eU.2 (.inl he),by rw [hk]; exact (iR hj').symm⟩
   ·subst hj';exact ⟨(c,w),eU.2 (.inr rfl),(gG rfl).symm⟩
 ·refine aj (fun hh=>by omega) (fun _ => ?_);obtain ⟨e0,a3,a4⟩:=h.kex k a1;have hty:=h.ty e0 a3 k a1 a4.symm
  by_cases ht:idx b.types (k:Int)=typ c.Kind
  ·have hat:=BO (w:=w) h.toBookInv0 a1 a2 ht h1 h8 hw hE;refine dA hat (fun r hr => ?_);refine ⟨hr.1.trans ⟨fun hh=>⟨fun e he hs => ?_,hh⟩,fun hh=>hh.2⟩,fun h0 => ?_⟩
   ·exact (h.ty e he k a1 (a2.trans hs.symm)).symm.trans ht
   ·obtain ⟨q1,q2,q3⟩:=hr.2 h0;refine ⟨q1,by rw [q2]; exact hl,fun j hj => ?_⟩
    rw [q2] at hj ⊢
    obtain ⟨e,he,hk⟩:=h.kex j hj;exact ⟨e,eU.2 (.inl he),hk⟩
  ·have hin:=h.ic k a1;have a7:=h.i8 k a1;have hwn:=h.wn k a1;refine dA (yK (who:=w) a1 t1 t2 t3 t4 (by omega) (by omega) h1 h8) (fun r hr => ?_);have hno:¬ BN E c w:=fun hh=>ht (hty.trans (hh.1 e0 a3 (a4.trans a2)));rcases hr with ⟨a,rfl⟩ | ⟨a,_⟩ | ⟨a,_⟩ | ⟨a,_⟩ | ⟨a,_⟩ | ⟨a,_⟩ | ⟨a,_⟩
   ·exact ⟨⟨fun h=>by simp at h,fun hh=>absurd hh hno⟩,fun h=>by simp at h⟩
   all_goals exact absurd a ht
def xc (h:History) (i:Nat):List (Call×Int):=(bQ h (idx h.Txns (i:Int))).map (fun c=>(c,(i:Int)))
def nH (h:History) (k:Nat):List (Call×Int):=(List.range k).flatMap (xc h)
theorem oh {h:History} {k:Nat}:nH h (k + 1)=nH h k++xc h k:=by
 unfold nH; rw [List.range_succ,List.flatMap_append]; simp
def lU (E L:List (Call×Int)):Prop:=∀ j:Nat,j < L.length→BN (E++L.take j) (idx L (j:Int)).1 (idx L (j:Int)).2
theorem lU.append {E L M:List (Call×Int)}:lU E (L++M)↔lU E L∧lU (E++L) M:=by
 constructor
 ·intro h;refine ⟨fun j hj => ?_,fun j hj => ?_⟩
  ·have:=h j (by simp; omega)
   rwa [iR hj,List.take_append_of_le_length (by omega)] at this
  ·have:=h (L.length + j) (by simp; omega)
   rw [List.take_append,List.take_of_length_le (by omega),show L.length + j - L.length=j by omega,← List.append_assoc] at this
   rwa [show idx (L++M) ((L.length + j:Nat):Int)=idx M (j:Int) from by
    rw [dE rfl (by simp; omega),dE rfl hj,List.getElem_append_right (by omega)]; congr 1; omega] at this
 ·rintro ⟨h1,h2⟩ j hj;rcases Nat.lt_or_ge j L.length with h3 | h3
  ·rw [iR h3,List.take_append_of_le_length (by omega)]; exact h1 j h3
  ·obtain ⟨i,rfl⟩:∃ i,j=L.length + i:=⟨j - L.length,by omega⟩
   have hi:i < M.length:=by simp at hj; omega
   have:=h2 i hi
   rw [List.take_append,List.take_of_length_le (by omega),show L.length + i - L.length=i by omega,← List.append_assoc]
   rwa [show idx (L++M) ((L.length + i:Nat):Int)=idx M (i:Int) from by
    rw [dE rfl (by simp; omega),dE rfl hi,List.getElem_append_right (by omega)]; congr 1; omega]
theorem room {K l:List ByteArray} {s:ByteArray} (hK:K.length≤32) (hl:l.length=32) (nd:∀ i j:Nat,i < l.length→j < l.length→idx l (i:Int)=idx l (j:Int)→i=j)
  (hs:s ∈ K) (hsub:∀ x ∈ l,x ∈ K):∃ j:Nat,j < l.length∧idx l (j:Int)=s:=by
 have hnd:l.Nodup:=by
  rw [List.nodup_iff_pairwise_ne,List.pairwise_iff_getElem]
  intro i j hi hj hij he;have:=nd i j hi hj (by rw [dE rfl hi,dE rfl hj]; exact he)
  omega
 by_cases h:s ∈ l
 ·obtain ⟨j,hj,he⟩:=List.getElem_of_mem h;exact ⟨j,hj,(dE rfl hj).trans he⟩
 ·have h1:(s::l).Nodup:=List.nodup_cons.2 ⟨h,hnd⟩;have h2:=h1.length_le_of_subset (l₂:=K) (fun x hx=>by
   rcases List.mem_cons.1 hx with rfl | hx
   ·exact hs
   ·exact hsub x hx)
  simp at h2
  omega
def InK (K:List ByteArray) (E:List (Call×Int)):Prop:=∀ e ∈ E,e.1.Key ∈ K
theorem lT.sub {K:List ByteArray} {E:List (Call×Int)} {b:az} (h:lT E b) (hE:InK K E):∀ x ∈ b.keys,x ∈ K:=by
 intro x hx;obtain ⟨j,hj,rfl⟩:=List.getElem_of_mem hx;obtain ⟨e,he,hk⟩:=h.kex j hj;have:=hE e he
 rw [hk,dE rfl hj] at this
 exact this
theorem AU {K:List ByteArray} {E:List (Call×Int)} {b:az} {i:Nat} {l:List Call} (h:lT E b) (hK:K.length≤32) (hEK:InK K E) (hlK:∀ c ∈ l,c.Key ∈ K) (hl:l.length≤16) (hi:i < 64) (hn:E.length≤1024)
  (hc:oN l (fun c=>1≤c.Kind∧c.Kind≤8)) :
  Tri (iter (dU (i:Int) l) (uA b 0)) (fun x=>(lU E (l.map (fun c=>(c,(i:Int))))→∃ b',x = .inr (.inl (uA b' ((i + 1:Nat):Int)))∧lT (E++l.map (fun c=>(c,(i:Int)))) b') ∧
   (¬ lU E (l.map (fun c=>(c,(i:Int))))→x = .inr (.inr 1))):=by
 generalize hm:l.map (fun c=>(c,(i:Int)))=m;have hml:m.length=l.length:=by rw [← hm]; simp
 have hmi:∀ k:Nat,k < l.length→idx m (k:Int)=(idx l (k:Int),(i:Int)):=fun k hk=>by rw [← hm,sJ hk]
 refine df (k0:=0) l.length (fun k s=>∃ b',s=uA b' (k:Int)∧lT (E++m.take k) b'∧∀ j:Nat,j < k→BN (E++m.take j) (idx m (j:Int)).1 (idx m (j:Int)).2) (Nat.zero_le _) ⟨b,rfl,by simpa using h,fun j hj=>absurd hj (Nat.not_lt_zero _)⟩ ?_
 rintro k s hk ⟨b',rfl,hb,hJ⟩;unfold dU uA
 dsimp only
 refine aj (fun a2 => ?_) (fun a2 => ?_)
 ·have a1:k < l.length:=by omega
  have hin:InK K (E++m.take k):=fun e he=>by
   rcases List.mem_append.1 he with he | he
   ·exact hEK e he
   ·have:=List.mem_of_mem_take he
    rw [← hm] at this
    obtain ⟨c,hc,rfl⟩:=List.mem_map.1 this;exact hlK c hc
  have hcK:(idx l (k:Int)).Key ∈ K:=hlK _ (by rw [dE rfl a1]; exact List.getElem_mem a1);have hw:w64 ((k:Int) + 1)=((k + 1:Nat):Int):=bq (by omega);obtain ⟨r,hr,q1,q2⟩:=CB (c:=idx l (k:Int)) (w:=(i:Int)) hb (fun a3=>room hK a3 hb.nd hcK (hb.sub hin)) (hc k a1).1 (hc k a1).2 (by omega) (by simp; omega);refine ah (by omega) (dG hr ?_);refine aj (fun h0 => ?_) (fun h0 => ?_)
  ·refine aA (aA (aA (af ⟨fun hall => ?_,fun _=>rfl⟩)));have:=hall k (by omega)
   rw [hmi k a1] at this
   exact absurd (q1.2 this) h0
  ·refine af ⟨a1,r.2,?_,?_,?_⟩
   ·rw [hw]
   ·rw [mD (by omega),hmi k a1,← List.append_assoc]
    exact q2 (by omega)
   ·intro j hj;rcases Nat.lt_or_ge j k with h1 | h1
    ·exact hJ j h1
    ·rw [show j=k by omega,hmi k a1]; exact q1.1 (by omega)
 ·have hw:w64 ((i:Int) + 1)=((i + 1:Nat):Int):=bq (by omega)
  rw [hw]
  have hfull:m.take k=m:=List.take_of_length_le (by omega)
  rw [hfull] at hb
  refine aA (aA (af ⟨fun _=>⟨b',rfl,hb⟩,fun hno=>absurd (fun j hj=>hJ j (by omega)) hno⟩))
structure dZ (h:History):Prop where
 names:lQ h.Keys
 len:h.Txns.length≤32
 txn:∀ i:Nat,i < h.Txns.length→uB h i
 ents:lU [] (nH h h.Txns.length)
theorem keys_in {h:History} {i:Nat} (hi:qF h (idx h.Txns (i:Int))):∀ c ∈ bQ h (idx h.Txns (i:Int)),c.Key ∈ h.Keys:=by
 intro c hc;obtain ⟨o,ho,rfl⟩:=List.mem_map.1 hc;have:=(rT.1 hi) o ho
 show idx h.Keys o.Key ∈ h.Keys
 rw [dE (n:=o.Key.toNat) (by omega) (by omega)]
 exact List.getElem_mem _
theorem CE {h:History} {i:Nat} (hi:uB h i):(xc h i).length≤16:=by
 have:=hi.2.2.2.2.1
 simpa [xc,sZ,bQ] using this
theorem wH {h:History} (hs:nZ h):Tri (ak h) (fun v=>(v=0↔dZ h)∧(v=0∨v=1)):=by
 obtain ⟨a5,a6,a3⟩:=hs;obtain ⟨y,hy,hn⟩:=wZ (l:=h.Keys) (by omega);unfold ak fu
 simp only [cond_true,cond_false]
 repeat' (first | contradiction | with_reducible refine aj (fun hq => ?_) (fun hq => ?_) | with_reducible refine ah (by first | omega | grind [bz]) ?_ | with_reducible refine aA ?_ | with_reducible refine bF ?_ | with_reducible refine bR ?_ | with_reducible refine bN ?_ | with_reducible refine bS ?_ | with_reducible refine af ?_ | refine dG hy ?_)
 ·exact ⟨⟨fun h=>absurd h (by decide),fun hS=>absurd (hn.2 hS.names) ‹¬y=true›⟩,.inr rfl⟩
 ·exact ⟨⟨fun h=>absurd h (by decide),fun hS=>absurd hS.len (by omega)⟩,.inr rfl⟩
 ·have hN:lQ h.Keys:=hn.1 (Decidable.of_not_not ‹¬¬y=true›);have a2:h.Txns.length≤32:=by omega
  refine df (k0:=0) h.Txns.length (fun k s=>∃ b,s=uA b (k:Int)∧lT (nH h k) b∧InK h.Keys (nH h k)∧(nH h k).length≤16 * k∧lU [] (nH h k)∧∀ j:Nat,j < k→uB h j) (Nat.zero_le _)
   ⟨⟨[],[],[],[],[]⟩,rfl,lT.start,fun e he=>by simp [nH] at he,by simp [nH],fun j hj=>by simp [nH] at hj,fun j hj=>absurd hj (Nat.not_lt_zero _)⟩ ?_
  rintro k s hk ⟨b,rfl,hb,hin,hlen,hents,hJ⟩;unfold iq ik uA
  simp only [cond_true,cond_false]
  have hbad:(k < h.Txns.length → ¬ uB h k)→k < h.Txns.length → ¬ dZ h:=fun h1 h2 hS=>h1 h2 (hS.txn k h2);refine aj (fun a4 => ?_) (fun a4 => ?_)
  ·have a1:k < h.Txns.length:=by omega
   obtain ⟨p',hp',hp1'⟩:=qP (l:=h.Txns) a1 (by omega);have hco:tT (sZ h (idx h.Txns (k:Int)))→(idx h.Txns (k:Int)).Ops.length≤16:=fun he=>by
    have:=he.2.2.1
    simpa [sZ,bQ] using this
   repeat' (first | contradiction | with_reducible refine aj (fun hq => ?_) (fun hq => ?_) | with_reducible refine ah (by first | omega | grind [bz]) ?_ | with_reducible refine aA ?_ | with_reducible refine bF ?_ | with_reducible refine bR ?_ | with_reducible refine bN ?_ | with_reducible refine bS ?_ | with_reducible refine af ?_ | refine dG hp' ?_)
   ·exact ⟨⟨fun h=>absurd h (by decide),fun hS=>absurd (hp1'.2 (hS.txn k a1).1) ‹¬p'=true›⟩,.inr rfl⟩
   ·exact ⟨⟨fun h=>absurd h (by decide),fun hS=>absurd (hco (hS.txn k a1).2.2) (by omega)⟩,.inr rfl⟩
   ·refine yL (b:=b) a1 (a3 k a1) (by omega) (fun hno => ?_) (fun hKo hEv => ?_)
    ·exact ⟨⟨fun h=>absurd h (by decide),fun hS=>absurd ⟨(hS.txn k a1).2.1,(hS.txn k a1).2.2⟩ hno⟩,.inr rfl⟩
    ·have hok:uB h k:=⟨hp1'.1 (Decidable.of_not_not ‹¬¬p'=true›),hKo,hEv⟩;have hc:oN (bQ h (idx h.Txns (k:Int))) (fun c=>1≤c.Kind∧c.Kind≤8):=fun j hj=>⟨(hEv.2.2.2 j hj).1,(hEv.2.2.2 j hj).2.1⟩;refine dA (AU (i:=k) hb hN.1 hin (keys_in hKo) hEv.2.2.1 (by omega) (by omega) hc) (fun x hx => ?_)
     by_cases hall:lU (nH h k) (xc h k)
     ·obtain ⟨b',rfl,hb'⟩:=hx.1 hall;refine ⟨a1,b',rfl,by rw [oh]; exact hb',?_,?_,?_,?_⟩
      ·rw [oh]
       intro e he;rcases List.mem_append.1 he with he | he
       ·exact hin e he
       ·obtain ⟨c,hc,rfl⟩:=List.mem_map.1 he;exact keys_in hKo c hc
      ·have:=CE hok
       rw [oh,List.length_append]; omega
      ·rw [oh]
       exact lU.append.2 ⟨hents,hall⟩
      ·intro j hj;rcases Nat.lt_or_ge j k with h1 | h1
       ·exact hJ j h1
       ·rw [show j=k by omega]; exact hok
     ·rw [hx.2 hall]
      refine ⟨⟨fun h=>absurd h (by decide),fun hS=>absurd ?_ hall⟩,.inr rfl⟩;have hsp:∀ n:Nat,k + 1≤n→lU [] (nH h n)→lU (nH h k) (xc h k):=by
       intro n
       induction n with
       | zero=>intro h; omega
       | succ n ih =>
        intro hn hE
        rw [oh,lU.append] at hE
        rcases Nat.lt_or_ge k n with h1 | h1
        ·exact ih (by omega) hE.1
        ·rw [show n=k by omega] at hE
         exact hE.2
      exact hsp _ a1 hS.ents
  ·have a1:k=h.Txns.length:=by omega
   repeat' (first | contradiction | with_reducible refine aj (fun hq => ?_) (fun hq => ?_) | with_reducible refine ah (by first | omega | grind [bz]) ?_ | with_reducible refine aA ?_ | with_reducible refine bF ?_ | with_reducible refine bR ?_ | with_reducible refine bN ?_ | with_reducible refine bS ?_ | with_reducible refine af ?_)
   rw [a1] at hents hJ
   exact ⟨⟨fun _=>⟨hN,a2,hJ,hents⟩,fun _=>rfl⟩,.inl rfl⟩
theorem xe {h:History} (hs:nZ h):∃ v,aG h=some v∧ak h=some v∧(v=0∨v=1)∧(v=0↔dZ h):=by
 obtain ⟨v,hv,v',hv',rfl,a1⟩:=vF hs;obtain ⟨w,hw,h1,h2⟩:=wH hs;have:v=w:=Option.some.inj (hv'.symm.trans hw);subst this;exact ⟨v,hv,hv',a1,h1⟩
end Go.Proofs.YtmfgddafcgflaaaT
namespace Go.Proofs.YtmfgddafcgflaaaT
open Go Go.Proofs Go.Proofs.YtmfgddafcgflaaaE
set_option linter.unusedVariables false
set_option linter.unusedSimpArgs false
def qG (ops:List Op) (key:Int) (p:Nat):List Int:=((ops.take p).filter (fun o=>decide (o.Key=key∧o.Kind≤4))).map (·.Arg)
theorem CF {ops:List Op} {key:Int}:qG ops key 0=[]:=rfl
theorem vH {ops:List Op} {key:Int} {p:Nat} (h:p < ops.length):qG ops key (p + 1)=if (idx ops (p:Int)).Key=key∧(idx ops (p:Int)).Kind≤4 then qG ops key p++[(idx ops (p:Int)).Arg] else qG ops key p:=by
 unfold qG
 rw [mD h,List.filter_append,List.map_append]
 by_cases e:(idx ops (p:Int)).Key=key∧(idx ops (p:Int)).Kind≤4
 ·simp [e]
 ·rw [if_neg e]
  simp only [List.filter_cons,List.filter_nil,decide_eq_true_eq,if_neg e]
  simp
theorem uC {ops:List Op} {key:Int} {p:Nat}:(qG ops key p).length≤ops.length:=by
 unfold qG
 rw [List.length_map]
 exact Nat.le_trans (List.length_filter_le _ _) (by simp; omega)
def vU (ops:List Op) (t:Int) (p:Nat):List Ask :=
 let o:=idx ops (p:Int)
 let mine:=qG ops o.Key p
 if o.Kind≤4 then [] else if mine=[] then [⟨t,p,o.Key,o.Vals⟩] else if (before (o.Kind - 4) o.Vals mine).2=true∧o.Kind≠5 then [⟨t,p,o.Key,(before (o.Kind - 4) o.Vals mine).1⟩] else []
def xg (ops:List Op) (t:Int) (p:Nat):List ko :=
 let o:=idx ops (p:Int)
 let mine:=qG ops o.Key p
 if o.Kind≤4 then [] else if mine=[] then [] else if (before (o.Kind - 4) o.Vals mine).2=true then [] else [⟨t,p⟩]
def ol (ops:List Op) (t:Int) (k:Nat):List Ask:=(List.range k).flatMap (vU ops t)
def pg (ops:List Op) (t:Int) (k:Nat):List ko:=(List.range k).flatMap (xg ops t)
theorem vV {ops:List Op} {t:Int} {k:Nat}:ol ops t (k + 1)=ol ops t k++vU ops t k:=by
 unfold ol; rw [List.range_succ,List.flatMap_append]; simp
theorem uD {ops:List Op} {t:Int} {k:Nat}:pg ops t (k + 1)=pg ops t k++xg ops t k:=by
 unfold pg; rw [List.range_succ,List.flatMap_append]; simp
theorem xh {ops:List Op} {t:Int} {k:Nat}:(ol ops t k).length≤k:=by
 induction k with
 | zero=>simp [ol]
 | succ k ih =>
  rw [vV,List.length_append]
  have:(vU ops t k).length≤1:=by
   unfold vU
   dsimp only
   split
   ·simp
   ·split
    ·simp
    ·split <;> simp
  omega
theorem vW {ops:List Op} {t:Int} {k:Nat}:(pg ops t k).length≤k:=by
 induction k with
 | zero=>simp [pg]
 | succ k ih =>
  rw [uD,List.length_append]
  have:(xg ops t k).length≤1:=by
   unfold xg
   dsimp only
   split
   ·simp
   ·split
    ·simp
    ·split <;> simp
  omega
def pQ (h:History) (t:Int):List Ask:=if (idx h.Txns t).Status=1 then ol (idx h.Txns t).Ops t (idx h.Txns t).Ops.length else []
def sH (h:History) (t:Int):List ko:=if (idx h.Txns t).Status=1 then pg (idx h.Txns t).Ops t (idx h.Txns t).Ops.length else []
def Dy (ops:List Op):Prop:=ops.length≤16∧oN ops (fun o=>1≤o.Kind∧o.Kind≤8∧o.Vals.length≤64)
theorem uB.ops {h:History} {i:Nat} (hi:uB h i):Dy (idx h.Txns (i:Int)).Ops:=by
 obtain ⟨_,_,_,_,h1,h2⟩:=hi;refine ⟨by simpa [sZ,bQ] using h1,fun j hj => ?_⟩
 have:=h2 j (by simpa [sZ,bQ] using hj)
 dsimp only [sZ,bQ] at this
 rw [sJ hj] at this
 unfold nC rF at this
 dsimp only at this
 grind
theorem CG {h:History} {t:Nat} {f:di} (ht:t < h.Txns.length) (ho:Dy (idx h.Txns (t:Int)).Ops) (ha:f.asks.length≤1000000) (hb:f.bad.length≤1000000) :
  Tri (aN f h (t:Int)) (fun r=>r=⟨f.asks++pQ h (t:Int),f.bad++sH h (t:Int)⟩):=by
 unfold aN pQ sH;refine ah (by omega) ?_;refine aj (fun h1 => ?_) (fun h1 => ?_)
 ·rw [if_neg h1,if_neg h1]
  exact af (by simp)
 ·have h1:(idx h.Txns (t:Int)).Status=1:=Decidable.of_not_not h1
  rw [if_pos h1,if_pos h1]
  generalize hx:(idx h.Txns (t:Int)).Ops=ops at ho ⊢;obtain ⟨a4,hall⟩:=ho;refine df (k0:=0) ops.length (fun k s=>s.1=f.asks++ol ops (t:Int) k∧s.2.1=f.bad++pg ops (t:Int) k∧(∀ key,mat s.2.2.1 key=qG ops key k)∧s.2.2.2=(k:Int)) (Nat.zero_le _)
   ⟨by simp [ol],by simp [pg],fun key=>rfl,rfl⟩ ?_
  rintro k ⟨l1,l2,m,x⟩ hk ⟨e1,e2,hm,e4⟩
  dsimp only at e1 e2 hm e4
  subst e1 e2 e4;unfold kr iL iI eu
  simp only [cond_true,cond_false,hx,hm]
  have hw:w64 ((k:Int) + 1)=((k + 1:Nat):Int):=bq (by omega);have l1:=xh (ops:=ops) (t:=(t:Int)) (k:=k);have l2:=vW (ops:=ops) (t:=(t:Int)) (k:=k);have l3:=uC (ops:=ops) (key:=(idx ops (k:Int)).Key) (p:=k);have hn:∀ key,k < ops.length→qG ops key (k + 1)=_:=fun key hk=>vH hk
  rw [hw]
  refine aj (fun a3 => ?_) (fun a3 => ?_)
  ·have a1:k < ops.length:=by omega
   obtain ⟨o1,o2,o3⟩:=hall k a1;have a2:w64 ((idx ops (k:Int)).Kind - 4)=(idx ops (k:Int)).Kind - 4:=bz (by omega) (by omega);have hbf:=uy ((idx ops (k:Int)).Kind - 4) (s:=(idx ops (k:Int)).Vals) (args:=qG ops (idx ops (k:Int)).Key k) (by omega) (by omega);have hcl:dJ (idx ops (k:Int)).Vals=some (idx ops (k:Int)).Vals:=iC _ (by omega)
   rw [a2,hbf,hcl]
   simp only [List.length_append]
   have hA:=vV (ops:=ops) (t:=(t:Int)) (k:=k);have hB:=uD (ops:=ops) (t:=(t:Int)) (k:=k);have hnil:∀ l:List Int,l=[]↔l.length=0:=fun l=>List.length_eq_zero_iff.symm;unfold vU at hA;unfold xg at hB
   dsimp only at hA hB
   repeat' (first | contradiction | with_reducible refine aj (fun hq => ?_) (fun hq => ?_) | with_reducible refine ah (by first | omega | grind [bz]) ?_ | with_reducible refine aA ?_ | with_reducible refine bF ?_ | with_reducible refine bR ?_ | with_reducible refine bN ?_ | with_reducible refine bS ?_ | with_reducible refine af ?_)
   all_goals (refine ⟨a1,?_,?_,fun key => ?_,rfl⟩ <;> dsimp only)
   all_goals grind [lW]
  ·have:k=ops.length:=by omega
   subst this
   repeat' (first | contradiction | with_reducible refine aj (fun hq => ?_) (fun hq => ?_) | with_reducible refine ah (by first | omega | grind [bz]) ?_ | with_reducible refine aA ?_ | with_reducible refine bF ?_ | with_reducible refine bR ?_ | with_reducible refine bN ?_ | with_reducible refine bS ?_ | with_reducible refine af ?_)
   rfl
end Go.Proofs.YtmfgddafcgflaaaT
namespace Go.Proofs.YtmfgddafcgflaaaT
open Go Go.Proofs Go.Proofs.YtmfgddafcgflaaaE
set_option linter.unusedVariables false
set_option linter.unusedSimpArgs false
end Go.Proofs.YtmfgddafcgflaaaT
namespace Go.Proofs.YtmfgddafcgflaaaT
open Go Go.Proofs Go.Proofs.YtmfgddafcgflaaaE
set_option linter.unusedVariables false
set_option linter.unusedSimpArgs false
abbrev OG (y:Op):Prop:=((Lit.int .i64 (y).Kind).wf=true)∧((Lit.int .i64 (y).Key).wf=true)∧((Lit.int .i64 (y).Arg).wf=true)∧(True)∧((∀ z ∈ (y).Vals,(Lit.int .i64 z).wf=true)∧((y).Vals).length * 8≤140737488351232)
abbrev TG (y:Txn):Prop:=((Lit.int .i64 (y).Proc).wf=true)∧((Lit.int .i64 (y).Status).wf=true)∧((Lit.int .i64 (y).From).wf=true)∧((Lit.int .i64 (y).To).wf=true)∧((∀ z ∈ (y).Ops,OG z)∧((y).Ops).length * 56≤140737488351232)
abbrev HG (K:ByteArray→Prop) (x:History):Prop:=((∀ y ∈ (x).Keys,K y)∧((x).Keys).length * 16≤140737488351232)∧((∀ y ∈ (x).Txns,TG y)∧((x).Txns).length * 56≤140737488351232)
theorem HG.small {K:ByteArray→Prop} {h:History} (g:HG K h):nZ h :=
 ⟨g.1.2,g.2.2,rT.2 fun t ht=>⟨(g.2.1 t ht).2.2.2.2.2,rT.2 fun o ho=>((g.2.1 t ht).2.2.2.2.1 o ho).2.2.2.2.2⟩⟩
theorem yM {h:History} {t:Nat} (ho:Dy (idx h.Txns (t:Int)).Ops):(pQ h (t:Int)).length≤16∧(sH h (t:Int)).length≤16∧oN (pQ h (t:Int)) (fun x=>x.Base.length < 2 ^ 62):=by
 have h1:=xh (ops:=(idx h.Txns (t:Int)).Ops) (t:=(t:Int)) (k:=(idx h.Txns (t:Int)).Ops.length);have h2:=vW (ops:=(idx h.Txns (t:Int)).Ops) (t:=(t:Int)) (k:=(idx h.Txns (t:Int)).Ops.length);have h3:=ho.1;refine ⟨?_,?_,?_⟩
 ·unfold pQ; split
  ·omega
  ·simp
 ·unfold sH; split
  ·omega
  ·simp
 ·rw [rT]
  intro x hx;unfold pQ at hx
  split at hx
  ·unfold ol at hx
   rw [List.mem_flatMap] at hx
   obtain ⟨p,hp,hx⟩:=hx;have hp:p < _:=List.mem_range.1 hp;have hv:=(ho.2 p hp).2.2;have hb:=yI ((idx (idx h.Txns (t:Int)).Ops (p:Int)).Kind - 4) (idx (idx h.Txns (t:Int)).Ops (p:Int)).Vals (qG (idx h.Txns (t:Int)).Ops (idx (idx h.Txns (t:Int)).Ops (p:Int)).Key p);unfold vU at hx
   dsimp only at hx
   split at hx
   ·simp at hx
   ·split at hx
    ·simp at hx; subst hx; dsimp only; omega
    ·split at hx
     ·simp at hx; subst hx; dsimp only; omega
     ·simp at hx
  ·simp at hx
end Go.Proofs.YtmfgddafcgflaaaT
namespace Go.Proofs.YtmfgddafcgflaaaT
open Go Go.Proofs Go.Proofs.YtmfgddafcgflaaaE
set_option linter.unusedVariables false
set_option linter.unusedSimpArgs false
def dh (h:History) (k:Nat):List Ask:=(List.range k).flatMap (fun t=>pQ h ((t:Nat):Int))
def fU (h:History) (k:Nat):List ko:=(List.range k).flatMap (fun t=>sH h ((t:Nat):Int))
theorem uE {h:History} {k:Nat}:dh h (k + 1)=dh h k++pQ h (k:Int):=by
 unfold dh; rw [List.range_succ,List.flatMap_append]; simp
theorem tu {h:History} {k:Nat}:fU h (k + 1)=fU h k++sH h (k:Int):=by
 unfold fU; rw [List.range_succ,List.flatMap_append]; simp
theorem sI {h:History} (hS:dZ h):∀ k:Nat,k≤h.Txns.length→(dh h k).length≤16 * k∧(fU h k).length≤16 * k∧oN (dh h k) (fun x=>x.Base.length < 2 ^ 62):=by
 intro k
 induction k with
 | zero=>intro _; simp [dh,fU,oN]
 | succ k ih =>
  intro hk;obtain ⟨i1,i2,i3⟩:=ih (by omega);obtain ⟨b1,b2,b3⟩:=yM (hS.txn k (by omega)).ops
  rw [uE,tu,List.length_append,List.length_append]
  refine ⟨by omega,by omega,?_⟩
  rw [rT] at i3 b3 ⊢
  intro x hx;rcases List.mem_append.1 hx with hx | hx
  ·exact i3 x hx
  ·exact b3 x hx
theorem uF {h:History} (hs:nZ h) (hS:dZ h) (hc:aG h=some 0):gT h=some (⟨dh h h.Txns.length,fU h h.Txns.length⟩,0):=by
 have a3:=hS.len;refine kC.1 ?_;unfold gT;refine dG hc ?_
 rw [bne_self_eq_false,cond_false]
 refine df (k0:=0) h.Txns.length (fun k s=>s=(dh h k,fU h k,(k:Int))) (Nat.zero_le _) rfl ?_;rintro k s hk rfl;have hw:w64 ((k:Int) + 1)=((k + 1:Nat):Int):=bq (by omega);obtain ⟨i1,i2,i3⟩:=sI hS k hk;unfold qo
 dsimp only
 refine aj (fun a2 => ?_) (fun a2 => ?_)
 ·have a1:k < h.Txns.length:=by omega
  refine bH (CG a1 (hS.txn k a1).ops (by dsimp only; omega) (by dsimp only; omega)) (fun r hr => ?_);subst hr;refine af ⟨a1,?_⟩
  dsimp only
  rw [hw,uE,tu]
 ·have:k=h.Txns.length:=by omega
  subst this;exact aA (af rfl)
end Go.Proofs.YtmfgddafcgflaaaT
namespace Go.Proofs.YtmfgddafcgflaaaT
open Go Go.Proofs Go.Proofs.YtmfgddafcgflaaaE
set_option linter.unusedVariables false
set_option linter.unusedSimpArgs false
def jG (h:History) (t:Int) (key:Int):List Int:=qG (idx h.Txns t).Ops key (idx h.Txns t).Ops.length
theorem zF {h:History} {t key:Int}:(jG h t key).length≤(idx h.Txns t).Ops.length:=uC
theorem xk {x:Txn} {key:Int} (ho:x.Ops.length≤16):cB x key=some (qG x.Ops key x.Ops.length):=by
 refine kC.1 ?_;unfold cB;refine df (k0:=0) x.Ops.length (fun k s=>s=(qG x.Ops key k,(k:Int))) (Nat.zero_le _) rfl ?_;rintro k s hk rfl;have hw:w64 ((k:Int) + 1)=((k + 1:Nat):Int):=bq (by omega);have l3:=uC (ops:=x.Ops) (key:=key) (p:=k);have hn:k < x.Ops.length→qG x.Ops key (k + 1)=_:=fun hk=>vH hk;unfold nT lG lF
 dsimp only
 rw [hw]
 refine aj (fun a2 => ?_) (fun a2 => ?_)
 ·have a1:k < x.Ops.length:=by omega
  replace hn:=hn a1
  repeat' (first | contradiction | with_reducible refine aj (fun hq => ?_) (fun hq => ?_) | with_reducible refine ah (by first | omega | grind [bz]) ?_ | with_reducible refine aA ?_ | with_reducible refine bF ?_ | with_reducible refine bR ?_ | with_reducible refine bN ?_ | with_reducible refine bS ?_ | with_reducible refine af ?_)
  all_goals (refine ⟨a1,?_⟩; dsimp only; grind)
 ·have:k=x.Ops.length:=by omega
  subst this
  repeat' (first | contradiction | with_reducible refine aj (fun hq => ?_) (fun hq => ?_) | with_reducible refine ah (by first | omega | grind [bz]) ?_ | with_reducible refine aA ?_ | with_reducible refine bF ?_ | with_reducible refine bR ?_ | with_reducible refine bN ?_ | with_reducible refine bS ?_ | with_reducible refine af ?_)
  all_goals rfl
def Dz (h:History) (key:Int) (t:Nat):Bool:=decide ((idx h.Txns (t:Int)).Status≠2∧0 < (jG h (t:Int) key).length)
def iV (h:History) (key:Int) (k:Nat):List Int:=((List.range k).filter (Dz h key)).map (fun t:Nat=>(t:Int))
theorem xm {h:History} {key:Int} {k:Nat}:iV h key (k + 1)=if Dz h key k then iV h key k++[(k:Int)] else iV h key k:=by
 unfold iV
 rw [List.range_succ,List.filter_append,List.map_append]
 by_cases hw:Dz h key k=true <;> simp [hw]
theorem tC {h:History} {key:Int} {k:Nat}:(iV h key k).length≤k:=by
 unfold iV
 rw [List.length_map]
 exact Nat.le_trans (List.length_filter_le _ _) (by simp)
theorem zG {h:History} {key:Int} {k:Nat} {t:Int}:t ∈ iV h key k↔0≤t∧t < (k:Int)∧(idx h.Txns t).Status≠2∧0 < (jG h t key).length:=by
 unfold iV
 simp only [List.mem_map,List.mem_filter,List.mem_range,Dz,decide_eq_true_eq]
 constructor
 ·rintro ⟨n,⟨hn,h1,h2⟩,rfl⟩;exact ⟨by omega,by omega,h1,h2⟩
 ·rintro ⟨h0,h1,h2,h3⟩;refine ⟨t.toNat,⟨by omega,?_⟩,by omega⟩
  rw [show ((t.toNat:Nat):Int)=t by omega]
  exact ⟨h2,h3⟩
theorem yN {h:History} (hS:dZ h) (hc:aG h=some 0) {key:Int}:bK h key=some (iV h key h.Txns.length):=by
 have a3:=hS.len;refine kC.1 ?_;unfold bK;refine dG hc ?_
 rw [bne_self_eq_false,cond_false]
 refine df (k0:=0) h.Txns.length (fun k s=>s=(iV h key k,(k:Int))) (Nat.zero_le _) rfl ?_;rintro k s hk rfl;have hw:w64 ((k:Int) + 1)=((k + 1:Nat):Int):=bq (by omega);have l3:=tC (h:=h) (key:=key) (k:=k);have hn:=xm (h:=h) (key:=key) (k:=k);unfold Dz jG at hn;unfold mo jX jW
 dsimp only
 rw [hw]
 refine aj (fun a2 => ?_) (fun a2 => ?_)
 ·have a1:k < h.Txns.length:=by omega
  have hwt:=xk (x:=idx h.Txns (k:Int)) (key:=key) (hS.txn k a1).ops.1
  simp only [hwt,Option.bind_some]
  repeat' (first | contradiction | with_reducible refine aj (fun hq => ?_) (fun hq => ?_) | with_reducible refine ah (by first | omega | grind [bz]) ?_ | with_reducible refine aA ?_ | with_reducible refine bF ?_ | with_reducible refine bR ?_ | with_reducible refine bN ?_ | with_reducible refine bS ?_ | with_reducible refine af ?_)
  all_goals (refine ⟨a1,?_⟩; dsimp only; grind)
 ·have:k=h.Txns.length:=by omega
  subst this
  repeat' (first | contradiction | with_reducible refine aj (fun hq => ?_) (fun hq => ?_) | with_reducible refine ah (by first | omega | grind [bz]) ?_ | with_reducible refine aA ?_ | with_reducible refine bF ?_ | with_reducible refine bR ?_ | with_reducible refine bN ?_ | with_reducible refine bS ?_ | with_reducible refine af ?_)
  all_goals rfl
theorem xn {h:History} (hS:dZ h) (hc:aG h=some 0) {t key:Int}:eD h t key =
  some (if 0≤t∧t < (h.Txns.length:Int) then (jG h t key,decide (0 < (jG h t key).length)) else ([],false)):=by
 refine kC.1 ?_;unfold eD jK
 simp only [hc,Option.bind_some]
 by_cases ht:0≤t∧t < (h.Txns.length:Int)
 ·have h2:t=((t.toNat:Nat):Int):=by omega
  have ho:=(hS.txn t.toNat (by omega)).ops.1
  rw [← h2] at ho
  have hwt:=xk (x:=idx h.Txns t) (key:=key) ho
  simp only [hwt,Option.bind_some]
  rw [if_pos ht]
  unfold jG
  repeat' (first | contradiction | with_reducible refine aj (fun hq => ?_) (fun hq => ?_) | with_reducible refine ah (by first | omega | grind [bz]) ?_ | with_reducible refine aA ?_ | with_reducible refine bF ?_ | with_reducible refine bR ?_ | with_reducible refine bN ?_ | with_reducible refine bS ?_ | with_reducible refine af ?_)
  all_goals (first | omega | simp)
 ·rw [if_neg ht]
  repeat' (first | contradiction | with_reducible refine aj (fun hq => ?_) (fun hq => ?_) | with_reducible refine ah (by first | omega | grind [bz]) ?_ | with_reducible refine aA ?_ | with_reducible refine bF ?_ | with_reducible refine bR ?_ | with_reducible refine bN ?_ | with_reducible refine bS ?_ | with_reducible refine af ?_)
  all_goals (first | omega | rfl | simp)
end Go.Proofs.YtmfgddafcgflaaaT
namespace Go.Proofs.YtmfgddafcgflaaaT
open Go Go.Proofs Go.Proofs.YtmfgddafcgflaaaE
set_option linter.unusedVariables false
set_option linter.unusedSimpArgs false
def opAt (h:History) (t p:Int):Op:=idx (idx h.Txns t).Ops p
theorem BP {h:History} {n t p:Nat} (ht:t < n) (hp:p < (idx h.Txns (t:Int)).Ops.length):(rF h (opAt h (t:Int) (p:Int)),(t:Int)) ∈ nH h n:=by
 unfold nH xc bQ opAt
 rw [List.mem_flatMap]
 refine ⟨t,List.mem_range.2 ht,?_⟩
 rw [List.map_map,List.mem_map]
 refine ⟨idx (idx h.Txns (t:Int)).Ops (p:Int),?_,rfl⟩
 rw [dE (n:=p) rfl hp]
 exact List.getElem_mem _
theorem DC {L:List (Call×Int)} (h:lU [] L) {e f:Call×Int} (he:e ∈ L) (hf:f ∈ L) (hk:e.1.Key=f.1.Key):typ e.1.Kind=typ f.1.Kind:=by
 obtain ⟨i,hi,rfl⟩:=List.getElem_of_mem he;obtain ⟨j,hj,rfl⟩:=List.getElem_of_mem hf;rcases Nat.lt_trichotomy i j with hij | hij | hij
 ·have:=(h j hj).1 L[i] (by rw [List.nil_append]; exact List.mem_take_iff_getElem.2 ⟨i,by omega,rfl⟩) (by rw [dE (n:=j) rfl hj]; exact hk)
  rwa [dE (n:=j) rfl hj] at this
 ·subst hij; rfl
 ·have:=(h i hi).1 L[j] (by rw [List.nil_append]; exact List.mem_take_iff_getElem.2 ⟨j,by omega,rfl⟩) (by rw [dE (n:=i) rfl hi]; exact hk.symm)
  rw [dE (n:=i) rfl hi] at this
  exact this.symm
theorem DD {h:History} (hS:dZ h) {t p t' p':Nat} (ht:t < h.Txns.length) (hp:p < (idx h.Txns (t:Int)).Ops.length) (ht':t' < h.Txns.length) (hp':p' < (idx h.Txns (t':Int)).Ops.length)
  (hk:(opAt h (t:Int) (p:Int)).Key=(opAt h (t':Int) (p':Int)).Key):typ (opAt h (t:Int) (p:Int)).Kind=typ (opAt h (t':Int) (p':Int)).Kind :=
 DC hS.ents (BP ht hp) (BP ht' hp') (by show idx h.Keys _=idx h.Keys _; rw [hk])
theorem BQ {h:History} (hS:dZ h) {t p:Nat} (ht:t < h.Txns.length) (hp:p < (idx h.Txns (t:Int)).Ops.length):1≤(opAt h (t:Int) (p:Int)).Kind∧(opAt h (t:Int) (p:Int)).Kind≤8:=by
 obtain ⟨h1,h2⟩:=(hS.txn t ht).ops;have:=h2 p hp;exact ⟨this.1,this.2.1⟩
theorem CJ {h:History} (hS:dZ h) (hc:aG h=some 0) {key:Int} {t0 p0:Nat} (a5:t0 < h.Txns.length) (a4:p0 < (idx h.Txns (t0:Int)).Ops.length) (a3:(opAt h (t0:Int) (p0:Int)).Key=key) :
  dN h key=some (typ (opAt h (t0:Int) (p0:Int)).Kind):=by
 have b1:=hS.len;refine kC.1 ?_;unfold dN;refine dG hc ?_
 rw [bne_self_eq_false,cond_false]
 refine df (k0:=0) h.Txns.length (fun k s=>s=(k:Int)∧∀ t p:Nat,t < k→p < (idx h.Txns (t:Int)).Ops.length→(opAt h (t:Int) (p:Int)).Key≠key) (Nat.zero_le _) ⟨rfl,fun t p h=>absurd h (Nat.not_lt_zero _)⟩ ?_;rintro k s hk ⟨rfl,hno⟩;have hw:w64 ((k:Int) + 1)=((k + 1:Nat):Int):=bq (by omega);unfold pI;refine aj (fun a9 => ?_) (fun a9 => ?_)
 ·have a1:k < h.Txns.length:=by omega
  refine ah (by omega) ?_;have b0:=(hS.txn k a1).ops.1;refine df (k0:=0) (idx h.Txns (k:Int)).Ops.length (fun m s=>s=(m:Int)∧∀ p:Nat,p < m→(opAt h (k:Int) (p:Int)).Key≠key) (Nat.zero_le _) ⟨rfl,fun p h=>absurd h (Nat.not_lt_zero _)⟩ ?_;rintro m s hm ⟨rfl,a6⟩;have a7:w64 ((m:Int) + 1)=((m + 1:Nat):Int):=bq (by omega);unfold pG
  dsimp only
  rw [hw,a7]
  refine aj (fun a8 => ?_) (fun a8 => ?_)
  ·have a2:m < (idx h.Txns (k:Int)).Ops.length:=by omega
   refine ah (by omega) ?_;refine aj (fun he => ?_) (fun he => ?_)
   ·obtain ⟨k1,k2⟩:=BQ hS a1 a2;refine dG (rH k1 k2) (aA (aA (af ?_)));exact DD hS a1 a2 a5 a4 ((show (opAt h (k:Int) (m:Int)).Key=key from he).trans a3.symm)
   ·refine af ⟨a2,rfl,fun p hp => ?_⟩;rcases Nat.lt_or_ge p m with h1 | h1
    ·exact a6 p h1
    ·have:p=m:=by omega
     subst this;exact he
  ·have:m=(idx h.Txns (k:Int)).Ops.length:=by omega
   subst this;refine aA (af ⟨a1,rfl,fun t p ht hp => ?_⟩);rcases Nat.lt_or_ge t k with h1 | h1
   ·exact hno t p h1 hp
   ·have:t=k:=by omega
    subst this;exact a6 p hp
 ·have:k=h.Txns.length:=by omega
  subst this;exact absurd a3 (hno t0 p0 a5 a4)
end Go.Proofs.YtmfgddafcgflaaaT
namespace Go.Proofs.YtmfgddafcgflaaaT
open Go Go.Proofs Go.Proofs.YtmfgddafcgflaaaE
set_option linter.unusedVariables false
set_option linter.unusedSimpArgs false
structure Gs (h:History) (a:Ask) (t p:Nat):Prop where
 tl:t < h.Txns.length
 pl:p < (idx h.Txns (t:Int)).Ops.length
 e1:a.Txn=(t:Int)
 e2:a.Place=(p:Int)
 e3:a.Key=(opAt h (t:Int) (p:Int)).Key
 rd:5≤(opAt h (t:Int) (p:Int)).Kind
 b64:a.Base.length≤64
 b4:typ (opAt h (t:Int) (p:Int)).Kind=4→a.Base.length=1
 b3:typ (opAt h (t:Int) (p:Int)).Kind=3→a.Base.Nodup
theorem yl {s:List Int} (h:Asc s):s.Nodup:=by
 exact (sG.1 h).imp (fun h=>by omega)
theorem DF {h:History} (hS:dZ h) {a:Ask} (ha:a ∈ dh h h.Txns.length):∃ t p,Gs h a t p:=by
 unfold dh at ha;obtain ⟨t,ht,ha⟩:=List.mem_flatMap.1 ha;have ht:=List.mem_range.1 ht;unfold pQ at ha
 split at ha
 case isFalse=>cases ha
 case isTrue hst =>
 unfold ol at ha;obtain ⟨p,hp,ha⟩:=List.mem_flatMap.1 ha;have hp:=List.mem_range.1 hp;refine ⟨t,p,?_⟩;obtain ⟨k1,k8⟩:=BQ hS ht hp;obtain ⟨_,_,_,_,_,hcs⟩:=hS.txn t ht;have hc:=hcs p (by simpa [sZ,bQ] using hp)
 dsimp only [sZ,bQ] at hc
 rw [sJ hp] at hc
 unfold nC rF at hc
 dsimp only at hc
 unfold vU at ha
 dsimp only at ha
 have ho:idx (idx h.Txns (t:Int)).Ops (p:Int)=opAt h (t:Int) (p:Int):=rfl
 rw [ho] at ha hc
 generalize opAt h (t:Int) (p:Int)=o at ha hc k1 k8 ho;obtain ⟨c1,c8,c3,c4,c5,c6⟩:=hc;have hoo:opAt h (t:Int) (p:Int)=o:=ho
 split at ha
 ·cases ha
 ·rename_i h4
  obtain ⟨d1,d2,d3,d4⟩:=c6 (by omega);have hg:o.Got=true:=d2.2 hst;obtain ⟨f1,f2,f3,f4⟩:=d4 hg
  split at ha
  ·rw [List.mem_singleton] at ha
   subst ha;exact ⟨ht,hp,rfl,rfl,by rw [hoo],by rw [hoo]; omega,f4,fun h=>f2 (by rw [hoo] at h; unfold typ at h; omega),fun h=>yl (f3 (by rw [hoo] at h; unfold typ at h; omega))⟩
  ·split at ha
   ·rename_i hb
    rw [List.mem_singleton] at ha
    subst ha;obtain ⟨hb,h5⟩:=hb;refine ⟨ht,hp,rfl,rfl,by rw [hoo],by rw [hoo]; omega,?_,fun h => ?_,fun h => ?_⟩
    ·dsimp only
     unfold before;have:=List.length_filter_le (fun x=>decide (x ∉ qG (idx h.Txns (t:Int)).Ops o.Key p)) o.Vals
     split
     ·simp
     ·split
      ·simp
      ·split
       ·split
        ·simp; omega
        ·simp
       ·split
        ·split
         ·dsimp only; omega
         ·simp
        ·simp
    ·have h8:o.Kind=8:=by rw [hoo] at h; unfold typ at h; omega
     dsimp only
     unfold before at hb ⊢
     rw [h8] at hb ⊢
     split at hb
     ·cases hb
     ·rename_i hq
      rw [if_neg hq]
      simp
    ·have h7:o.Kind=7:=by rw [hoo] at h; unfold typ at h; omega
     have hnd:=yl (f3 h7)
     dsimp only
     unfold before
     rw [h7]
     split
     ·simp
     ·simp only [show ¬ ((7:Int) - 4=1) by omega,show ¬ ((7:Int) - 4=2) by omega,if_false]
      split
      ·split
       ·exact hnd.filter _
       ·simp
      ·rename_i h0
       exact absurd (show (7:Int) - 4=3 by omega) h0
   ·cases ha
end Go.Proofs.YtmfgddafcgflaaaT
namespace Go.Proofs.YtmfgddafcgflaaaT
open Go Go.Proofs Go.Proofs.YtmfgddafcgflaaaE
set_option linter.unusedVariables false
set_option linter.unusedSimpArgs false
section
variable {O:List Int} {W:Int→List Int}
theorem mJ {l:List Int} {j:Nat} (hj:j < l.length):idx l (j:Int) ∈ l:=by rw [dE (n:=j) rfl hj]; exact List.getElem_mem _
theorem yO {l:List Int} {t:Int} (h:t ∈ l):∃ j:Nat,j < l.length∧idx l (j:Int)=t:=by
 obtain ⟨j,hj,e⟩:=List.getElem_of_mem h;exact ⟨j,hj,(dE rfl hj).trans e⟩
end
end Go.Proofs.YtmfgddafcgflaaaT
namespace Go.Proofs.YtmfgddafcgflaaaT
open Go Go.Proofs Go.Proofs.YtmfgddafcgflaaaE
set_option linter.unusedVariables false
set_option linter.unusedSimpArgs false
section
variable {O:List Int} {W:Int→List Int} {rest l:List Int}
end
end Go.Proofs.YtmfgddafcgflaaaT
namespace Go.Proofs.YtmfgddafcgflaaaT
open Go Go.Proofs Go.Proofs.YtmfgddafcgflaaaE
set_option linter.unusedVariables false
set_option linter.unusedSimpArgs false
section
variable {O:List Int} {W:Int→List Int} {rest l:List Int}
end
end Go.Proofs.YtmfgddafcgflaaaT
namespace Go.Proofs.YtmfgddafcgflaaaT
open Go Go.Proofs Go.Proofs.YtmfgddafcgflaaaE
set_option linter.unusedVariables false
set_option linter.unusedSimpArgs false
theorem wN {l:List Int}:∀ {m:List Int},l.Nodup→(∀ x ∈ l,x ∈ m)→l.length≤m.length:=by
 induction l with
 | nil=>intro m _ _; simp
 | cons x l ih =>
  intro m hn hs;obtain ⟨h1,h2⟩:=List.nodup_cons.1 hn;have hx:=hs x (by simp);have:=ih (m:=m.erase x) h2 (fun y hy=>(List.mem_erase_of_ne (fun (e:y=x)=>h1 (e ▸ hy))).2 (hs y (by simp [hy])))
  rw [List.length_erase_of_mem hx] at this
  have:0 < m.length:=List.length_pos_of_mem hx
  simp
  omega
def cnt (base w:List Int):Nat:=(w.filter (fun v=>decide (v ∈ base))).length
def Whole (O:List Int) (W:Int→List Int) (base:List Int):Prop:=(∀ t ∈ O,cnt base (W t)=0∨cnt base (W t)=(W t).length)∧∀ v ∈ base,∃ t ∈ O,v ∈ W t
section
variable {O:List Int} {W:Int→List Int} {base:List Int}
end
end Go.Proofs.YtmfgddafcgflaaaT
namespace Go.Proofs.YtmfgddafcgflaaaT
open Go Go.Proofs Go.Proofs.YtmfgddafcgflaaaE
set_option linter.unusedVariables false
set_option linter.unusedSimpArgs false
section
variable {O:List Int} {W:Int→List Int} {base:List Int}
end
end Go.Proofs.YtmfgddafcgflaaaT
namespace Go.Proofs.YtmfgddafcgflaaaT
open Go Go.Proofs Go.Proofs.YtmfgddafcgflaaaE
set_option linter.unusedVariables false
set_option linter.unusedSimpArgs false
def zH (s:Int) (w:List Int):Int:=w.foldl (fun x v=>w64 (x + v)) s
theorem CK {s:Int} {w:List Int} {k:Nat} (hk:k < w.length):zH s (w.take (k + 1))=w64 (zH s (w.take k) + idx w (k:Int)):=by
 unfold zH
 rw [List.take_succ_eq_append_getElem hk,List.foldl_append,(dE (n:=k) rfl hk:idx w (k:Int)=w[k])]
 rfl
section
variable {O:List Int} {W:Int→List Int} {want:Int}
def picks (O:List Int) (f:Nat→Prop) [DecidablePred f] (k:Nat):List Int:=((List.range k).filter (fun j=>decide (f j))).map (fun j:Nat=>idx O (j:Int))
open Classical in
end
end Go.Proofs.YtmfgddafcgflaaaT
namespace Go.Proofs.YtmfgddafcgflaaaT
open Go Go.Proofs Go.Proofs.YtmfgddafcgflaaaE
set_option linter.unusedVariables false
set_option linter.unusedSimpArgs false
theorem wbm (x:Int):w64 x=Int.bmod x 18446744073709551616:=by
 unfold w64 IntKind.wrap
 simp only [IntKind.bits,IntKind.signed,Bool.true_and,Int.bmod_def]
 have h1:(2 ^ 64:Int)=18446744073709551616:=by decide
 have h2:=Int.emod_nonneg x (show (18446744073709551616:Int)≠0 by decide);have h3:=Int.emod_lt_of_pos x (show (0:Int) < 18446744073709551616 by decide)
 simp only [h1]
 by_cases h:x % 18446744073709551616 < 9223372036854775808
 ·rw [if_neg (by simp; omega),if_pos (by simp; omega)]
  rfl
 ·rw [if_pos (by simp; omega),if_neg (by simp; omega)]
  rfl
theorem Ih (x y:Int):w64 (w64 x + y)=w64 (x + y):=by rw [wbm,wbm,wbm,Int.bmod_add_bmod]
theorem ym:∀ (w:List Int) (s:Int),zH (w64 s) w=w64 (s + w.sum)
 | [],s=>by simp [zH]
 | v::w,s=>by
  show zH (w64 (w64 s + v)) w=_
  rw [Ih,ym w,List.sum_cons,Int.add_assoc]
theorem CL (w:List Int):zH 0 w=w64 w.sum:=by
 have h:=ym w 0
 rw [Int.zero_add] at h
 exact h
section
variable {O:List Int} {W:Int→List Int} {want:Int}
end
end Go.Proofs.YtmfgddafcgflaaaT
namespace Go.Proofs.YtmfgddafcgflaaaT
open Go Go.Proofs Go.Proofs.YtmfgddafcgflaaaE
set_option linter.unusedVariables false
set_option linter.unusedSimpArgs false
section
variable {O:List Int} {W:Int→List Int}
open Classical in
end
end Go.Proofs.YtmfgddafcgflaaaT
namespace Go.Proofs.YtmfgddafcgflaaaT
open Go Go.Proofs Go.Proofs.YtmfgddafcgflaaaE
set_option linter.unusedVariables false
set_option linter.unusedSimpArgs false
section
variable {O:List Int} {W:Int→List Int}
end
end Go.Proofs.YtmfgddafcgflaaaT
namespace Go.Proofs.YtmfgddafcgflaaaT
open Go Go.Proofs Go.Proofs.YtmfgddafcgflaaaE
set_option linter.unusedVariables false
set_option linter.unusedSimpArgs false
open Classical in
theorem uG {l:List Ask} {j:Nat} (hj:j < l.length):idx l (j:Int) ∈ l:=by rw [dE (n:=j) rfl hj]; exact List.getElem_mem _
section
variable {h:History}
end
end Go.Proofs.YtmfgddafcgflaaaT
namespace Go.Proofs.YtmfgddafcgflaaaT
open Go Go.Proofs Go.Proofs.YtmfgddafcgflaaaE
set_option linter.unusedVariables false
set_option linter.unusedSimpArgs false
end Go.Proofs.YtmfgddafcgflaaaT
namespace Go.Proofs.YtmfgddafcgflaaaT
open Go Go.Proofs Go.Proofs.YtmfgddafcgflaaaE
set_option linter.unusedVariables false
set_option linter.unusedSimpArgs false
end Go.Proofs.YtmfgddafcgflaaaT
namespace Go.Proofs.YtmfgddafcgflaaaT
open Go Go.Proofs Go.Proofs.YtmfgddafcgflaaaE
set_option linter.unusedVariables false
set_option linter.unusedSimpArgs false
section
variable {h:History}
end
end Go.Proofs.YtmfgddafcgflaaaT
