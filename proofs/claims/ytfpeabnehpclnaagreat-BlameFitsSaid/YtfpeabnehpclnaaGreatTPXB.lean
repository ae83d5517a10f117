import Derived.Test.YtfpeabnehpclnaaGreatTD
import Derived.Test.YtfpeabnehpclnaaGreatXA
import Derived.Test.YtfpeabnehpclnaaGreatY
import Derived.Test.YtfpeabnehpclnaaGreatTF
namespace Go.Proofs.YtfpeabnehpclnaaGreatT
open Go Go.Proofs Go.Proofs.YtfpeabnehpclnaaGreatE
set_option linter.unusedVariables false
set_option linter.unusedSimpArgs false
def Upm {S Ω:Type} (n k:Nat) (J:Nat→S→Prop) (Q:Ω→Prop):S ⊕ Ω→Prop
 | .inl s'=>k < n∧J (k + 1) s'
 | .inr o=>Q o
theorem bX {S Ω:Type} {step:S→Option (S ⊕ Ω)} {Q:Ω→Prop} (n:Nat) (J:Nat→S→Prop) {s0:S} {k0:Nat} (a1:k0≤n) (h0:J k0 s0)
  (hs:∀ (k:Nat) (s:S),k≤n→J k s→Tri (step s) (Upm n k J Q)):Tri (iter step s0) Q:=by
 generalize hd:n - k0=d
 induction d using Nat.strongRecOn generalizing k0 s0 with
 | ind d ih =>
  obtain ⟨x,hx,hr⟩:=hs k0 s0 a1 h0
  rw [BI,hx]
  cases x with
  | inl s'=>exact ih (n - (k0 + 1)) (by have:=hr.1; omega) (k0:=k0 + 1) (by have:=hr.1; omega) hr.2 rfl
  | inr o=>exact ⟨o,rfl,hr⟩
def Asc (s:List Int):Prop:=∀ k:Nat,k + 1 < s.length→idx s (k:Int) < idx s ((k + 1:Nat):Int)
instance (s:List Int):Decidable (Asc s):=by
 unfold Asc;exact decidable_of_iff (∀ k,k < s.length→k + 1 < s.length→idx s (k:Int) < idx s ((k + 1:Nat):Int)) ⟨fun h k hk=>h k (by omega) hk,fun h k _ hk=>h k hk⟩
theorem kK {s:List Int} {k:Nat} (h:k < s.length):idx s (k:Int)=s[k]:=dJ rfl h
theorem Dm {s:List Int}:Asc s↔s.Pairwise (· < ·):=by
 rw [List.pairwise_iff_getElem]
 constructor
 ·intro h i j hi hj hij
  induction j with
  | zero=>omega
  | succ j ih =>
   have h1:=h j hj
   rw [kK (by omega),kK hj] at h1
   rcases Nat.lt_or_ge i j with h2 | h2
   ·exact Int.lt_trans (ih (by omega) h2) h1
   ·have:i=j:=by omega
    subst this;exact h1
 ·intro h k hk
  rw [kK (by omega),kK hk]
  exact h k (k + 1) (by omega) hk (by omega)
def SOk (t:Int) (s:List Int):Bool:=(t == 1 && decide (s.length≤1)) || (t == 2 && decide (s.length≤64)) || (t == 3 && decide (Asc s) && decide (s.length≤64)) || (t == 4 && s.length == 1)
def chk (t:Int) (s:List Int):Int:=if 1≤t∧t≤4 then (if SOk t s then 0 else 80) else 1
theorem pF {k:Nat} (h:k < 2 ^ 62) (h1:1≤k):w64 ((k:Int) - 1)=((k - 1:Nat):Int):=by
 rw [pI (by omega) (by omega)]; omega
theorem IC {s:List Int} (hs:s.length < 2 ^ 62):je () s=some (decide (Asc s) && decide (s.length≤64)):=by
 unfold je;refine eH.1 ?_;refine bX (k0:=1) (s.length + 1) (fun k x=>x=(k:Int)∧1≤k∧∀ j:Nat,j + 1 < k→j + 1 < s.length→idx s (j:Int) < idx s ((j + 1:Nat):Int)) (by omega) ⟨rfl,Nat.le_refl _,fun j h=>by omega⟩ ?_
 rintro k x hk ⟨rfl,a1,hJ⟩;unfold uC;refine eO (fun h => ?_) (fun h => ?_)
 ·have h:(k:Int) < s.length:=of_decide_eq_true h;have e:=pF (k:=k) (by omega) a1;refine aj (by rw [e]; omega) (aj (by omega) (eO (fun h2 => ?_) (fun h2 => ?_)))
  ·have h2:idx s (k:Int)≤idx s (w64 ((k:Int) - 1)):=of_decide_eq_true h2
   rw [e] at h2
   refine aD (ag ?_)
   show false=_
   have hn:¬ Asc s:=by
    intro hA;have:=hA (k - 1) (by omega)
    rw [show k - 1 + 1=k by omega] at this
    omega
   simp [hn]
  ·have h2:¬ idx s (k:Int)≤idx s (w64 ((k:Int) - 1)):=of_decide_eq_false h2
   rw [e] at h2
   refine ⟨_,rfl,by omega,aZ (by omega),by omega,fun j hj hl => ?_⟩
   rcases Nat.lt_or_ge (j + 1) k with h3 | h3
   ·exact hJ j h3 hl
   ·have:j=k - 1:=by omega
    subst this
    rw [show k - 1 + 1=k by omega]
    omega
 ·have h:¬ (k:Int) < s.length:=of_decide_eq_false h;refine aD (ag ?_)
  show decide ((s.length:Int)≤64)=_
  have hA:Asc s:=fun j hj=>hJ j (by omega) hj
  simp only [hA,decide_true,Bool.true_and]
  congr 1
  exact propext ⟨fun h=>by omega,fun h=>by omega⟩
theorem Km {t:Int} {s:List Int} (h:1≤t∧t≤4):chk t s=if SOk t s then 0 else 80:=if_pos h
theorem four {t:Int} (h:1≤t∧t≤4):t=1∨t=2∨t=3∨t=4:=by omega
theorem Vz {s:List Int} {n:Nat}:decide ((s.length:Int)≤(n:Int))=decide (s.length≤n):=by
 congr 1
 exact propext ⟨fun h=>by omega,fun h=>by omega⟩
theorem KZ {t:Int} (h:¬ (1≤t∧t≤4)):nC t=some (-1):=by
 have e1:(t == 1)=false:=by rw [beq_eq_false_iff_ne]; omega
 have e2:(t == 2)=false:=by rw [beq_eq_false_iff_ne]; omega
 have e3:(t == 3)=false:=by rw [beq_eq_false_iff_ne]; omega
 have e4:(t == 4)=false:=by rw [beq_eq_false_iff_ne]; omega
 simp [nC,e1,e2,e3,e4]
theorem FZ (t:Int) {s:List Int} (hs:s.length < 2 ^ 62):nE t s=some (chk t s):=by
 by_cases ht:1≤t∧t≤4
 ·rw [Km ht]
  rcases four ht with rfl | rfl | rfl | rfl
  ·have:=Vz (s:=s) (n:=1)
   simp only [Int.cast_ofNat_Int] at this
   simp [nE,nC,nD,SOk]
   by_cases h:s.length≤1
   ·have h':(s.length:Int)≤1:=by omega
    simp [h,h']
   ·have h':¬ (s.length:Int)≤1:=by omega
    simp [h,h']
  ·simp [nE,nC,sO,SOk]
   by_cases h:s.length≤64
   ·have h':(s.length:Int)≤64:=by omega
    simp [h,h']
   ·have h':¬ (s.length:Int)≤64:=by omega
    simp [h,h']
  ·simp [nE,nC,IC hs,SOk]
   by_cases h:Asc s <;> by_cases h':s.length≤64 <;> simp [h,h']
  ·simp [nE,nC,oz,SOk]
   by_cases h:s.length=1
   ·have h':(s.length:Int)=1:=by omega
    simp [h,h']
   ·have h':((s.length:Int) == 1)=false:=by rw [beq_eq_false_iff_ne]; omega
    simp [h,h']
 ·rw [chk,if_neg ht]
  simp [nE,KZ ht]
theorem La {s:List Int} (hs:s.length < 2 ^ 62):iter (nM s) (decide ((s.length:Int)≤64),1)=some (if decide (Asc s) && decide (s.length≤64) then 0 else 80):=by
 refine eH.1 ?_;refine bX (k0:=1) (s.length + 1) (fun k x=>x.2=(k:Int)∧1≤k∧(x.1=true↔s.length≤64∧∀ j:Nat,j + 1 < k→j + 1 < s.length→idx s (j:Int) < idx s ((j + 1:Nat):Int))) (by omega)
  ⟨rfl,Nat.le_refl _,⟨fun h=>⟨by have:=of_decide_eq_true h; omega,fun j hj=>by omega⟩,fun h=>decide_eq_true (by omega)⟩⟩ ?_
 rintro k ⟨b,x⟩ hk ⟨hx,a1,hJ⟩;have hx:x=(k:Int):=hx;subst hx;unfold nM;refine eO (fun h => ?_) (fun h => ?_)
 ·have h:(k:Int) < s.length:=of_decide_eq_true h;have e:=pF (k:=k) (by omega) a1;refine eO (fun hb => ?_) (fun hb => ?_)
  ·have hb':=hJ.1 hb;refine aj (by rw [e]; omega) (aj (by omega) ⟨_,rfl,by omega,aZ (by omega),by omega,?_⟩)
   show decide _=true↔_
   rw [e,decide_eq_true_iff]
   constructor
   ·intro h2;refine ⟨hb'.1,fun j hj hl => ?_⟩;rcases Nat.lt_or_ge (j + 1) k with h3 | h3
    ·exact hb'.2 j h3 hl
    ·have:j=k - 1:=by omega
     subst this
     rw [show k - 1 + 1=k by omega]
     omega
   ·rintro ⟨_,h2⟩;have:=h2 (k - 1) (by omega) (by omega)
    rw [show k - 1 + 1=k by omega] at this
    omega
  ·refine ⟨_,rfl,by omega,aZ (by omega),by omega,?_⟩
   show false=true↔_
   constructor
   ·intro h; cases h
   ·rintro ⟨h1,h2⟩;have:=hJ.2 ⟨h1,fun j hj=>h2 j (by omega)⟩;have hb:b=false:=hb
    rw [hb] at this
    cases this
 ·have h:¬ (k:Int) < s.length:=of_decide_eq_false h;refine aD ?_;have hb:b=(decide (Asc s) && decide (s.length≤64)):=by
   rw [Bool.eq_iff_iff,hJ]
   simp only [Bool.and_eq_true,decide_eq_true_eq]
   exact ⟨fun h=>⟨fun j hj=>h.2 j (by omega) hj,h.1⟩,fun h=>⟨h.2,fun j _ hj=>h.1 j hj⟩⟩
  unfold fO
  rw [← hb]
  cases b
  ·exact ⟨_,rfl,rfl⟩
  ·exact ⟨_,rfl,rfl⟩
theorem IE (t:Int) {s:List Int} (hs:s.length < 2 ^ 62):aU t s=some (chk t s):=by
 by_cases ht:1≤t∧t≤4
 ·rw [Km ht]
  rcases four ht with rfl | rfl | rfl | rfl
  ·simp [aU,fP,fO,SOk]
   by_cases h:s.length≤1
   ·have h':(s.length:Int)≤1:=by omega
    simp [h,h']
   ·have h':¬ (s.length:Int)≤1:=by omega
    simp [h,h']
  ·simp [aU,fP,fO,SOk]
   by_cases h:s.length≤64
   ·have h':(s.length:Int)≤64:=by omega
    simp [h,h']
   ·have h':¬ (s.length:Int)≤64:=by omega
    simp [h,h']
  ·simp [aU,fP]
   have:=La hs
   simp at this
   rw [this]
   simp [SOk]
  ·simp [aU,fP,fO,SOk]
   by_cases h:s.length=1
   ·have h':(s.length:Int)=1:=by omega
    simp [h,h']
   ·have h':((s.length:Int) == 1)=false:=by rw [beq_eq_false_iff_ne]; omega
    simp [h,h']
 ·rw [chk,if_neg ht]
  by_cases h1:t < 1
  ·simp [aU,fP,h1]
  ·have:t > 4:=by omega
   simp [aU,fP,h1,this]
def lb (s:List Int) (a:Int):Nat:=s.findIdx (fun x=>decide (a≤x))
def hit (s:List Int) (a:Int):Bool:=decide (lb s a < s.length) && (idx s (lb s a:Int) == a)
def ins (s:List Int) (a:Int):List Int:=s.take (lb s a)++((if hit s a then [] else [a])++s.drop (lb s a))
theorem RA (s:List Int) (a:Int):lb s a≤s.length:=List.findIdx_le_length
theorem Vl {s:List Int} {a:Int} {k:Nat} (h:k < lb s a):idx s (k:Int) < a:=by
 have h1:k < s.length:=Nat.lt_of_lt_of_le h (RA s a)
 rw [kK h1]
 have:=List.not_of_lt_findIdx (p:=fun x=>decide (a≤x)) (xs:=s) h
 simpa using this
theorem Vm {s:List Int} {a:Int} (h:lb s a < s.length):a≤idx s (lb s a:Int):=by
 rw [kK h]
 have:=List.findIdx_getElem (p:=fun x=>decide (a≤x)) (xs:=s) (w:=h);exact of_decide_eq_true this
theorem UI {s:List Int} {a:Int} {i:Nat} (hi:i≤s.length) (h1:∀ k:Nat,k < i→idx s (k:Int) < a) (h2:i < s.length→a≤idx s (i:Int)):lb s a=i:=by
 rcases Nat.lt_trichotomy (lb s a) i with h | h | h
 ·have:=Vm (s:=s) (a:=a) (by omega);have:=h1 _ h
  omega
 ·exact h
 ·have h3:=Vl h;have:=h2 (by have:=RA s a; omega)
  omega
theorem TQ {i j:Nat} (hi:i < 2 ^ 62) (hj:j < 2 ^ 62):w64 (fV .u64 (IntKind.wrap .u64 (w64 ((i:Int) + (j:Int)))) (1:Int))=(((i + j) / 2:Nat):Int):=by
 have e1:w64 ((i:Int) + (j:Int))=((i + j:Nat):Int):=by rw [pI (by omega) (by omega)]; omega
 rw [e1,wrap_u64 (by omega),Ng (n:=1) (i:=(1:Int)) rfl (by omega),pI (by omega) (by omega)]
 simp [Nat.shiftRight_eq_div_pow]
theorem PS (a b:Int):rR a b=some (decide (a < b)):=by simp [rR,qy]
theorem MC {s:List Int} (a:Int) (hA:Asc s) (hs:s.length < 2 ^ 62):df s a=some ((lb s a:Int),hit s a):=by
 unfold df;refine eH.1 ?_;have hP:=List.pairwise_iff_getElem.1 (Dm.1 hA);have hmono:∀ p q:Nat,p≤q→q < s.length→idx s (p:Int)≤idx s (q:Int):=by
  intro p q hpq hq;rcases Nat.lt_or_ge p q with h | h
  ·rw [kK (by omega),kK hq]
   exact Int.le_of_lt (hP p q (by omega) hq h)
  ·have:p=q:=by omega
   subst this;exact Int.le_refl _
 refine Jl (fun x:Int×Int=>∃ i j:Nat,x=((i:Int),(j:Int))∧i≤j∧j≤s.length∧(∀ k:Nat,k < i→idx s (k:Int) < a)∧(j < s.length→a≤idx s (j:Int))) (fun x=>x.2.toNat - x.1.toNat)
  ⟨0,s.length,rfl,by omega,by omega,fun k h=>by omega,fun h=>by omega⟩ ?_
 rintro _ ⟨i,j,rfl,hij,hj,h1,h2⟩;unfold lu;refine eO (fun h => ?_) (fun h => ?_)
 ·have h:(i:Int) < j:=of_decide_eq_true h;have e:=TQ (i:=i) (j:=j) (by omega) (by omega)
  rw [e]
  refine aj (by decide) (aj (by omega) ?_)
  rw [PS]
  show Tri (bif decide _ then _ else _) _
  have hm:(i + j) / 2 < j:=by omega
  have a1:i≤(i + j) / 2:=by omega
  generalize (i + j) / 2=m at hm a1;refine eO (fun h3 => ?_) (fun h3 => ?_)
  ·have h3:idx s (m:Int) < a:=of_decide_eq_true h3;refine ⟨_,rfl,⟨m + 1,j,by rw [aZ (by omega)],by omega,hj,fun k hk => ?_,h2⟩,?_⟩
   ·exact Int.lt_of_le_of_lt (hmono k m (by omega) (by omega)) h3
   ·rw [aZ (by omega)]; simp only [Int.toNat_natCast]; omega
  ·have h3:¬ idx s (m:Int) < a:=of_decide_eq_false h3;refine ⟨_,rfl,⟨i,m,rfl,a1,by omega,h1,fun _=>by omega⟩,?_⟩
   simp only [Int.toNat_natCast]; omega
 ·have h:¬ (i:Int) < j:=of_decide_eq_false h;have hji:j=i:=by omega
  subst hji;have hl:lb s a=j:=UI hj h1 h2;refine eO (fun h3 => ?_) (fun h3 => ?_)
  ·have h3:(j:Int) < s.length:=of_decide_eq_true h3;have hlt:j < s.length:=by omega
   refine aj (by omega) (eO (fun h4 => ?_) (fun h4 => ?_))
   ·refine aD (ag ?_)
    simp [Rnd,hl,hit,hlt,h4]
   ·simp only [mg,Option.bind_some,bne_self_eq_false,cond_false]
    refine aD (ag ?_)
    simp [Rnd,hl,hit,hlt,h4]
  ·have h3:¬ (j:Int) < s.length:=of_decide_eq_false h3;have hlt:¬ j < s.length:=by omega
   refine aD (ag ?_)
   simp [Rnd,hl,hit,hlt]
theorem TR {s:List Int} {a:Int} (hA:Asc s):hit s a=true↔a ∈ s:=by
 unfold hit
 simp only [Bool.and_eq_true,decide_eq_true_eq,beq_iff_eq]
 constructor
 ·rintro ⟨h1,h2⟩
  rw [kK h1] at h2
  exact h2 ▸ List.getElem_mem h1
 ·intro h;obtain ⟨k,hk,e⟩:=List.getElem_of_mem h;have hP:=List.pairwise_iff_getElem.1 (Dm.1 hA);have:lb s a=k:=by
   refine UI (by omega) (fun j hj => ?_) (fun _ => ?_)
   ·rw [kK (by omega),← e]; exact hP j k (by omega) hk hj
   ·rw [kK hk,e]; exact Int.le_refl _
  rw [this]
  exact ⟨hk,by rw [kK hk,e]⟩
def next (t:Int) (s:List Int) (a:Int):List Int:=if t=1 then [a] else if t=2 then s++[a] else if t=3 then ins s a else [w64 (idx s 0 + a)]
def app (t:Int) (s:List Int) (a:Int):List Int×Int :=
 if chk t s≠0 then ([],chk t s) else if (next t s a).length > 64 then ([],2) else (next t s a,0)
theorem RB {t:Int} {s:List Int} (h:chk t s=0):1≤t∧t≤4∧SOk t s=true:=by
 unfold chk at h
 split at h
 ·rename_i h1
  split at h
  ·exact ⟨h1.1,h1.2,by assumption⟩
  ·cases h
 ·cases h
theorem RD {t:Int} {s:List Int} (h:SOk t s=true):s.length≤64:=by
 simp only [SOk,Bool.or_eq_true,Bool.and_eq_true,decide_eq_true_eq,beq_iff_eq] at h
 omega
theorem UM {s:List Int} (h:SOk 3 s=true):Asc s:=by
 simp [SOk] at h
 exact h.1
theorem ok_one {s:List Int} (h:SOk 4 s=true):s.length=1:=by
 simp [SOk] at h
 exact h
def start (t:Int):List Int×Int:=if 1≤t∧t≤4 then (if t=4 then [0] else [],0) else ([],1)
def step (t:Int) (x:List Int×Int) (a:Int):List Int×Int:=if x.2=0 then app t x.1 a else x
theorem PT {a b:List Int} (ha:a.length < 2 ^ 62):dN a b=some (decide (a=b)):=by
 unfold dN
 by_cases hl:a.length=b.length
 ·have:((a.length:Int) != (b.length:Int))=false:=by simp; omega
  rw [this,cond_false]
  refine eH.1 ?_;refine Ey a.length (fun k=>∀ j:Nat,j < k→idx a (j:Int)=idx b (j:Int)) (fun j h=>by omega) (fun k hk hJ => ?_);unfold lh;refine eO (fun h => ?_) (fun h => ?_)
  ·have h:(k:Int) < a.length:=of_decide_eq_true h;refine aj (by omega) (aj (by omega) (eO (fun h2 => ?_) (fun h2 => ?_)))
   ·have h2:idx a (k:Int)≠idx b (k:Int):=by simpa using h2
    refine aD (ag ?_)
    show false=_
    have:a≠b:=fun e=>h2 (by rw [e])
    simp [this]
   ·have h2:idx a (k:Int)=idx b (k:Int):=by simpa using h2
    refine ⟨_,rfl,aZ (by omega),by omega,fun j hj => ?_⟩
    rcases Nat.lt_or_ge j k with h3 | h3
    ·exact hJ j h3
    ·have:j=k:=by omega
     subst this;exact h2
  ·have h:¬ (k:Int) < a.length:=of_decide_eq_false h;refine aD (ag ?_)
   show true=_
   have:a=b:=Nf hl (fun j hj=>hJ j (by omega))
   simp [this]
 ·have:((a.length:Int) != (b.length:Int))=true:=by simp; omega
  rw [this,cond_true]
  have:a≠b:=fun e=>hl (by rw [e])
  simp [this]
end Go.Proofs.YtfpeabnehpclnaaGreatT
namespace Go.Proofs.YtfpeabnehpclnaaGreatT
open Go Go.Proofs Go.Proofs.YtfpeabnehpclnaaGreatE
set_option linter.unusedVariables false
set_option linter.unusedSimpArgs false
theorem Lb {s:List Int} (a:Int) (hs:s.length < 2 ^ 62):iL s a=some (decide (a ∈ s)):=by
 unfold iL;refine eH.1 ?_;refine Ey s.length (fun k=>∀ j:Nat,j < k→idx s (j:Int)≠a) (fun j h=>by omega) (fun k hk hJ => ?_);unfold vL;refine eO (fun h => ?_) (fun h => ?_)
 ·have h:(k:Int) < s.length:=of_decide_eq_true h;have hks:k < s.length:=by omega
  refine aj (by omega) (eO (fun h2 => ?_) (fun h2 => ?_))
  ·have h2:idx s (k:Int)=a:=by simpa using h2
   refine aD (ag ?_)
   show true=_
   have:a ∈ s:=by rw [← h2,kK hks]; exact List.getElem_mem _
   simp [this]
  ·have h2:idx s (k:Int)≠a:=by simpa using h2
   refine ⟨_,rfl,aZ (by omega),by omega,fun j hj => ?_⟩
   rcases Nat.lt_or_ge j k with h3 | h3
   ·exact hJ j h3
   ·have:j=k:=by omega
    subst this;exact h2
 ·have h:¬ (k:Int) < s.length:=of_decide_eq_false h;refine aD (ag ?_)
  show false=_
  have:a ∉ s:=by
   intro hm;obtain ⟨j,hj,e⟩:=List.getElem_of_mem hm;exact hJ j (by omega) (by rw [kK hj,e])
  simp [this]
theorem Et {a b:List Int} (ha:a.length < 2 ^ 62):gP a b=some (decide (a=b)):=by
 rw [← PT ha]
 rfl
def Fit (s args:List Int):Prop:=∀ k:Nat,k < args.length→idx args (k:Int) ∈ s∧idx args (k:Int) ∉ args.take k
instance (s args:List Int):Decidable (Fit s args):=by unfold Fit; infer_instance
def before (t:Int) (s args:List Int):List Int×Bool :=
 if chk t s≠0∨args=[] then ([],false)
 else if t=1 then ([],decide (s.length=1∧idx s 0=idx args ((args.length - 1:Nat):Int)))
 else if t=2 then (if args.length≤s.length∧s.drop (s.length - args.length)=args then (s.take (s.length - args.length),true) else ([],false))
 else if t=3 then (if Fit s args then (s.filter (fun x=>decide (x ∉ args)),true) else ([],false))
 else ([args.foldl (fun v a=>w64 (v - a)) (idx s 0)],true)
theorem EX {s args:List Int} (hs:args.length < 2 ^ 62) (v:Int):iter (kG args) (v,0)=some ([args.foldl (fun v a=>w64 (v - a)) v],true):=by
 refine eH.1 ?_;refine yl args.length (fun k x=>x=(args.take k).foldl (fun v a=>w64 (v - a)) v) rfl (fun k x hk hJ => ?_);subst hJ;unfold kG;refine eO (fun h => ?_) (fun h => ?_)
 ·have h:(k:Int) < args.length:=of_decide_eq_true h;have hks:k < args.length:=by omega
  refine aj (by omega) ⟨_,rfl,aZ (by omega),hks,?_⟩
  show _=List.foldl _ _ _
  rw [List.take_add_one,List.getElem?_eq_getElem hks,List.foldl_append,kK hks]
  rfl
 ·have h:¬ (k:Int) < args.length:=of_decide_eq_false h;refine aD (ag ?_)
  show ([_],true)=_
  rw [List.take_of_length_le (by omega)]
theorem PU {s args:List Int} (hs:s.length < 2 ^ 43) (hm:args.length≤s.length):iter (mM s args) 0=some (if s.drop (s.length - args.length)=args then (s.take (s.length - args.length),true) else ([],false)):=by
 have e1:w64 ((s.length:Int) - (args.length:Int))=((s.length - args.length:Nat):Int):=by rw [pI (by omega) (by omega)]; omega
 refine eH.1 ?_;refine Ey args.length (fun k=>∀ j:Nat,j < k→idx s ((s.length - args.length + j:Nat):Int)=idx args (j:Int)) (fun j h=>by omega) (fun k hk hJ => ?_);unfold mM;refine eO (fun h => ?_) (fun h => ?_)
 ·have h:(k:Int) < args.length:=of_decide_eq_true h;have hks:k < args.length:=by omega
  have e2:w64 (w64 ((s.length:Int) - (args.length:Int)) + (k:Int))=((s.length - args.length + k:Nat):Int):=by rw [e1,pI (by omega) (by omega)]; omega
  rw [e2]
  refine aj (by omega) (aj (by omega) (eO (fun h2 => ?_) (fun h2 => ?_)))
  ·have h2:idx s ((s.length - args.length + k:Nat):Int)≠idx args (k:Int):=by simpa using h2
   refine aD (ag ?_)
   show ([],false)=_
   have:¬ s.drop (s.length - args.length)=args:=by
    intro e
    apply h2
    have h3:(s.drop (s.length - args.length))[k]? = args[k]? := by rw [e]
    rw [List.getElem?_drop,List.getElem?_eq_getElem (by omega),List.getElem?_eq_getElem hks] at h3
    rw [kK (by omega),kK hks]
    exact Option.some.inj h3
   rw [if_neg this]
  ·have h2:idx s ((s.length - args.length + k:Nat):Int)=idx args (k:Int):=by simpa using h2
   refine ⟨_,rfl,aZ (by omega),by omega,fun j hj => ?_⟩
   rcases Nat.lt_or_ge j k with h3 | h3
   ·exact hJ j h3
   ·have:j=k:=by omega
    subst this;exact h2
 ·have h:¬ (k:Int) < args.length:=of_decide_eq_false h;have hd:s.drop (s.length - args.length)=args:=by
   refine List.ext_getElem (by simp; omega) (fun j h1 h2 => ?_);have:=hJ j (by omega)
   rw [kK (by omega),kK h2] at this
   rw [List.getElem_drop]
   exact this
  rw [e1]
  have hsl:jT s (0:Int) ((s.length - args.length:Nat):Int)=s.take (s.length - args.length):=by simp [jT]
  rw [hsl]
  refine aj (by omega) (aj ⟨by simp; omega,by simp; omega⟩ (aD (ag ?_)))
  show ([]++s.take _,true)=_
  rw [if_pos hd,List.nil_append]
theorem EY {s args:List Int} (hs:s.length < 2 ^ 43) (ha:args.length < 2 ^ 62):fu () s args=some (if args.length≤s.length∧s.drop (s.length - args.length)=args then (s.take (s.length - args.length),true) else ([],false)):=by
 unfold fu
 by_cases hm:args.length≤s.length
 ·have e1:w64 ((s.length:Int) - (args.length:Int))=((s.length - args.length:Nat):Int):=by rw [pI (by omega) (by omega)]; omega
  have hlt:decide (w64 ((s.length:Int) - (args.length:Int)) < 0)=false:=decide_eq_false (by rw [e1]; omega)
  rw [hlt,cond_false,lJ _ (by rw [e1]; omega),e1]
  have hsl:jT s ((s.length - args.length:Nat):Int) (s.length:Int)=s.drop (s.length - args.length):=by simp [jT]
  have a1:jT s (0:Int) ((s.length - args.length:Nat):Int)=s.take (s.length - args.length):=by simp [jT]
  rw [hsl,Et (by simp; omega)]
  simp only [Option.bind_some]
  unfold kr
  rw [e1,a1,lJ _ (by omega)]
  have hc:iE (s.take (s.length - args.length))=some (s.take (s.length - args.length)):=lJ _ (by simp; omega)
  rw [hc]
  by_cases he:s.drop (s.length - args.length)=args
  ·simp [he,hm]
  ·simp [he]
 ·have hlt:decide (w64 ((s.length:Int) - (args.length:Int)) < 0)=true:=decide_eq_true (by rw [pI (by omega) (by omega)]; omega)
  rw [hlt,cond_true,kr,cond_true,if_neg (fun h=>hm h.1)]
theorem NP {s:List Int} (p:Int→Bool) (h:Asc s):Asc (s.filter p):=Dm.2 ((Dm.1 h).filter p)
theorem Kn {args:List Int} {k:Nat} (h:k < args.length):args.take (k + 1)=args.take k++[idx args (k:Int)]:=by
 rw [List.take_add_one,List.getElem?_eq_getElem h,kK h]; rfl
theorem ME {s args:List Int} {k:Nat} (h:k < args.length):s.filter (fun x=>decide (x ∉ args.take (k + 1)))=(s.filter (fun x=>decide (x ∉ args.take k))).filter (fun x=>decide (x≠idx args (k:Int))):=by
 rw [List.filter_filter]
 apply List.filter_congr
 intro x _
 rw [Kn h]
 simp only [List.mem_append,List.mem_singleton,not_or]
 rw [Bool.eq_iff_iff]
 simp only [decide_eq_true_eq,Bool.and_eq_true]
 exact ⟨fun h=>⟨h.2,h.1⟩,fun h=>⟨h.2,h.1⟩⟩
theorem NQ {l:List Int} {a:Int} (hA:Asc l) (h:hit l a=true):l.take (lb l a)++l.drop (lb l a + 1)=l.filter (fun x=>decide (x≠a)):=by
 have hP:=List.pairwise_iff_getElem.1 (Dm.1 hA)
 simp only [hit,Bool.and_eq_true,decide_eq_true_eq,beq_iff_eq] at h
 obtain ⟨h1,h2⟩:=h
 rw [kK h1] at h2
 generalize lb l a=i at h1 h2
 conv=>rhs; rw [← List.take_append_drop i l,List.drop_eq_getElem_cons h1,List.filter_append,List.filter_cons,h2]
 rw [if_neg (by simp)]
 congr 1
 ·symm
  rw [List.filter_eq_self]
  intro x hx;obtain ⟨j,hj,rfl⟩:=List.getElem_of_mem hx;have hj':j < i:=by simp at hj; omega
  have:=hP j i (by omega) h1 hj'
  rw [List.getElem_take,decide_eq_true_eq]
  omega
 ·symm
  rw [List.filter_eq_self]
  intro x hx;obtain ⟨j,hj,rfl⟩:=List.getElem_of_mem hx;have hj':i + 1 + j < l.length:=by simp at hj; omega
  have:=hP i (i + 1 + j) h1 hj' (by omega)
  rw [List.getElem_drop,decide_eq_true_eq]
  omega
theorem Ga {s args:List Int} (hA:Asc s) (hs:s.length < 2 ^ 43) (ha:args.length < 2 ^ 62):gH () s args=some (if Fit s args then (s.filter (fun x=>decide (x ∉ args)),true) else ([],false)):=by
 unfold gH;have hc:iE s=some s:=lJ _ (by omega)
 rw [hc]
 refine eH.1 ?_
 show Tri (iter (nG args) (s,0)) _
 refine yl args.length (fun k l=>l=s.filter (fun x=>decide (x ∉ args.take k))∧∀ j:Nat,j < k→idx args (j:Int) ∈ s∧idx args (j:Int) ∉ args.take j) ⟨by simp; exact (List.filter_eq_self.2 (fun _ _=>rfl)).symm,fun j h=>by omega⟩ (fun k l hk hJ => ?_)
 obtain ⟨hl,hJ⟩:=hJ;have hAl:Asc l:=by rw [hl]; exact NP _ hA
 have hll:l.length≤s.length:=by rw [hl]; exact List.length_filter_le _ _
 unfold nG;refine eO (fun h => ?_) (fun h => ?_)
 ·have h:(k:Int) < args.length:=of_decide_eq_true h;have hks:k < args.length:=by omega
  refine aj (by omega) ?_
  rw [MC _ hAl (by omega)]
  have hm:=TR (s:=l) (a:=idx args (k:Int)) hAl
  show Tri (bif !hit l (idx args (k:Int)) then _ else _) _
  cases hh:hit l (idx args (k:Int))
  ·simp only [Bool.not_false,cond_true]
   refine aD (ag ?_)
   show ([],false)=_
   have hn:¬ Fit s args:=by
    intro hF;have h1:=hF k hks;have:idx args (k:Int) ∈ l:=by rw [hl,List.mem_filter]; exact ⟨h1.1,by simpa using h1.2⟩
    rw [hm.2 this] at hh
    cases hh
   rw [if_neg hn]
  ·simp only [Bool.not_true,cond_false]
   have hi:=RA l (idx args (k:Int));have hlt:lb l (idx args (k:Int)) < l.length:=by
    simp only [hit,Bool.and_eq_true,decide_eq_true_eq] at hh
    exact hh.1
   have hd:lD l (lb l (idx args (k:Int)):Int) (w64 ((lb l (idx args (k:Int)):Int) + 1))=some (l.filter (fun x=>decide (x≠idx args (k:Int)))):=by
    unfold lD
    rw [aZ (by omega),lJ _ ⟨by omega,by omega,by omega⟩,Int.toNat_natCast,Int.toNat_natCast,NQ hAl hh]
   rw [hd]
   refine ⟨_,rfl,aZ (by omega),hks,?_,fun j hj => ?_⟩
   ·rw [ME hks,← hl]
   ·rcases Nat.lt_or_ge j k with h3 | h3
    ·exact hJ j h3
    ·have:j=k:=by omega
     subst this;have hmem:=hm.1 hh
     rw [hl,List.mem_filter] at hmem
     exact ⟨hmem.1,by simpa using hmem.2⟩
 ·have h:¬ (k:Int) < args.length:=of_decide_eq_false h;have hF:Fit s args:=fun j hj=>hJ j (by omega);refine aD (ag ?_)
  show (l,true)=_
  rw [if_pos hF,hl,List.take_of_length_le (by omega)]
theorem Hg {s args:List Int} (hs:s.length < 2 ^ 43) (ha:args.length < 2 ^ 62):iter (mO s args) ([],0)=some (.inr (s.filter (fun x=>decide (x ∉ args)),true)):=by
 refine eH.1 ?_;refine yl s.length (fun k l=>l=(s.take k).filter (fun x=>decide (x ∉ args))) (by simp) (fun k l hk hJ => ?_);have hll:l.length≤k:=by rw [hJ]; exact Nat.le_trans (List.length_filter_le _ _) (by simp; omega)
 unfold mO;refine eO (fun h => ?_) (fun h => ?_)
 ·have h:(k:Int) < s.length:=of_decide_eq_true h;have hks:k < s.length:=by omega
  refine aj (by omega) ?_
  rw [Lb _ ha]
  show Tri (bif !decide _ then _ else _) _
  have hn:(s.take (k + 1)).filter (fun x=>decide (x ∉ args))=l++(if idx s (k:Int) ∈ args then [] else [idx s (k:Int)]):=by
   rw [Kn hks,List.filter_append,← hJ]
   congr 1
   by_cases hm:idx s (k:Int) ∈ args <;> simp [hm]
  by_cases hm:idx s (k:Int) ∈ args
  ·simp only [hm,decide_true,Bool.not_true,cond_false]
   refine ⟨_,rfl,aZ (by omega),hks,?_⟩
   show l=_
   rw [hn,if_pos hm,List.append_nil]
  ·simp only [hm,decide_false,Bool.not_false,cond_true]
   refine aj ⟨by omega,by omega⟩ ⟨_,rfl,aZ (by omega),hks,?_⟩
   show l++[idx s (k:Int)]=_
   rw [hn,if_neg hm]
 ·have h:¬ (k:Int) < s.length:=of_decide_eq_false h;refine aD (aD (ag ?_))
  show Sum.inr (l,true)=_
  rw [hJ,List.take_of_length_le (by omega)]
theorem Lc {s args:List Int} (hs:s.length < 2 ^ 43) (ha:args.length < 2 ^ 62):iter (mP s args) 0=some (if Fit s args then (s.filter (fun x=>decide (x ∉ args)),true) else ([],false)):=by
 refine eH.1 ?_;refine Ey args.length (fun k=>∀ j:Nat,j < k→idx args (j:Int) ∈ s∧idx args (j:Int) ∉ args.take j) (fun j h=>by omega) (fun k hk hJ => ?_);unfold mP;refine eO (fun h => ?_) (fun h => ?_)
 ·have h:(k:Int) < args.length:=of_decide_eq_true h;have hks:k < args.length:=by omega
  refine aj (by omega) ?_
  rw [Lb _ (by omega)]
  have hfail:¬ (idx args (k:Int) ∈ s∧idx args (k:Int) ∉ args.take k)→Tri (kw (k:Int) true) (Up args.length k (fun k=>∀ j:Nat,j < k→idx args (j:Int) ∈ s∧idx args (j:Int) ∉ args.take j) (fun r=>r=(if Fit s args then (s.filter (fun x=>decide (x ∉ args)),true) else ([],false)))):=by
   intro hn;refine aD (ag ?_)
   show ([],false)=_
   rw [if_neg (fun hF=>hn (hF k hks))]
  have hsl:jT args (0:Int) (k:Int)=args.take k:=by simp [jT]
  show Tri (bif !decide _ then _ else _) _
  by_cases hm:idx args (k:Int) ∈ s
  ·simp only [hm,decide_true,Bool.not_true,cond_false]
   refine aj (by omega) ?_
   rw [hsl,Lb _ (by simp; omega)]
   show Tri (kw (k:Int) (decide _)) _
   by_cases a1:idx args (k:Int) ∈ args.take k
   ·simp only [a1,decide_true]
    exact hfail (fun h=>h.2 a1)
   ·simp only [a1,decide_false]
    refine ⟨_,rfl,aZ (by omega),hks,fun j hj => ?_⟩;rcases Nat.lt_or_ge j k with h3 | h3
    ·exact hJ j h3
    ·have:j=k:=by omega
     subst this;exact ⟨hm,a1⟩
  ·simp only [hm,decide_false,Bool.not_false,cond_true]
   exact hfail (fun h=>hm h.1)
 ·have h:¬ (k:Int) < args.length:=of_decide_eq_false h;have hF:Fit s args:=fun j hj=>hJ j (by omega)
  rw [Hg hs ha]
  rw [if_pos hF]
  exact ⟨_,rfl,rfl⟩
theorem MF {s args:List Int} (ha:args.length < 2 ^ 62) (h0:args≠[]):jE () s args=some ([],decide (s.length=1∧idx s 0=idx args ((args.length - 1:Nat):Int))):=by
 unfold jE;have hp:0 < args.length:=List.length_pos_iff.2 h0;have e1:w64 ((args.length:Int) - 1)=((args.length - 1:Nat):Int):=pF ha hp
 rw [e1]
 by_cases h1:s.length=1
 ·have h2:((s.length:Int) == 1)=true:=by rw [beq_iff_eq]; omega
  rw [h2,cond_true,lJ _ (by omega),lJ _ (by omega)]
  simp [h1]
  rw [Bool.eq_iff_iff]; simp
 ·have h2:((s.length:Int) == 1)=false:=by rw [beq_eq_false_iff_ne]; omega
  rw [h2,cond_false]
  simp [h1]
theorem EZ (t:Int) {s args:List Int} (hs:s.length < 2 ^ 62) (ha:args.length < 2 ^ 62):jf t s args=some (before t s args):=by
 unfold jf before
 rw [FZ t hs]
 by_cases hc:chk t s=0
 ·obtain ⟨h1,h2,h3⟩:=RB hc;have hl:=RD h3
  simp only [hc,Option.bind_some,bne_self_eq_false,cond_false,ne_eq,not_true,false_or]
  by_cases h0:args=[]
  ·subst h0
   simp [nz]
  ·have hp:((args.length:Int) == 0)=false:=by
    have:0 < args.length:=List.length_pos_iff.2 h0
    rw [beq_eq_false_iff_ne]; omega
   rw [hp,if_neg h0]
   unfold nz;rcases four ⟨h1,h2⟩ with rfl | rfl | rfl | rfl
   ·simp [nC,MF ha h0]
   ·simp [nC,EY (s:=s) (by omega) ha]
   ·simp [nC,Ga (UM h3) (by omega) ha]
   ·have:=ok_one h3
    simp [nC,fw]
    rw [lJ _ (by omega),EX (s:=s) ha]
    simp
 ·have:(chk t s != 0)=true:=by simpa using hc
  simp [hc,this,nz]
theorem Hl (t:Int) {s args:List Int} (hs:s.length < 2 ^ 62) (ha:args.length < 2 ^ 62):aQ t s args=some (before t s args):=by
 unfold aQ before
 rw [IE t hs]
 by_cases hc:chk t s=0
 ·obtain ⟨h1,h2,h3⟩:=RB hc;have hl:=RD h3
  simp only [hc,Option.bind_some,bne_self_eq_false,cond_false,ne_eq,not_true,false_or]
  by_cases h0:args=[]
  ·subst h0
   simp [iZ]
  ·have hp:((args.length:Int) == 0)=false:=by
    have:0 < args.length:=List.length_pos_iff.2 h0
    rw [beq_eq_false_iff_ne]; omega
   rw [hp,if_neg h0]
   unfold iZ;rcases four ⟨h1,h2⟩ with rfl | rfl | rfl | rfl
   ·simp only [cond_false,show ((1:Int) == 1)=true from rfl,cond_true,if_true]
    exact MF ha h0
   ·by_cases hm:args.length≤s.length
    ·have:¬ (args.length:Int) > s.length:=by omega
     simp [this,PU (s:=s) (by omega) hm,hm]
    ·have:(args.length:Int) > s.length:=by omega
     simp [this,hm]
   ·simp [Lc (s:=s) (by omega) ha]
   ·have:=ok_one h3
    simp
    rw [lJ _ (by omega)]
    exact EX (s:=s) ha _
 ·have:(chk t s != 0)=true:=by simpa using hc
  simp [hc,this,iZ]
theorem Ld (t:Int) (s args:List Int):(before t s args).1.length≤s.length + 1:=by
 unfold before
 split
 ·simp
 ·split
  ·simp
  ·split
   ·split <;> simp <;> omega
   ·split
    ·split
     ·exact Nat.le_trans (List.length_filter_le _ _) (by omega)
     ·simp
    ·simp
end Go.Proofs.YtfpeabnehpclnaaGreatT
namespace Go.Proofs.YtfpeabnehpclnaaGreatT
open Go Go.Proofs Go.Proofs.YtfpeabnehpclnaaGreatE
set_option linter.unusedVariables false
set_option linter.unusedSimpArgs false
def xM (c:Call) (k:Int):Prop :=
 1≤c.Kind∧c.Kind≤8∧1≤c.Key.size∧c.Key.size≤32 ∧
  (c.Kind≤4→c.Got=false∧c.Vals.length=0∧(c.Kind=4 → -1048576≤c.Arg∧c.Arg≤1048576)) ∧
  (5≤c.Kind→c.Arg=0∧(c.Got=true↔k=1)∧(c.Got=false→c.Vals.length=0) ∧
   (c.Got=true→(c.Kind=5→c.Vals.length≤1)∧(c.Kind=8→c.Vals.length=1)∧(c.Kind=7→Asc c.Vals)∧c.Vals.length≤64))
theorem Ko {k:ByteArray}:k=(⟨#[]⟩:ByteArray)↔k.size=0:=by
 constructor
 ·rintro rfl; rfl
 ·intro h;obtain ⟨a⟩:=k;have:a = #[]:=Array.eq_empty_of_size_eq_zero h
  rw [this]
theorem RF {c:Call} (hs:c.Vals.length < 2 ^ 61):Tri (iter (wZ c) 1) (fun r=>r=true↔(c.Kind=7→Asc c.Vals)):=by
 refine bX (k0:=1) (c.Vals.length + 1) (fun k x=>x=(k:Int)∧1≤k∧∀ j:Nat,j + 1 < k→j + 1 < c.Vals.length→idx c.Vals (j:Int) < idx c.Vals ((j + 1:Nat):Int)) (by omega) ⟨rfl,Nat.le_refl _,fun j h=>by omega⟩ ?_
 rintro k x hk ⟨rfl,a1,hJ⟩;unfold wZ wY
 dsimp only
 have e:=pF (k:=k) (by omega) a1;have e2:=aZ (k:=k) (by omega)
 rw [e,e2]
 repeat' (first | contradiction | with_reducible refine aA (fun hq => ?_) (fun hq => ?_) | with_reducible refine aj (by first | omega | grind [cZ]) ?_ | with_reducible refine aD ?_ | with_reducible refine dA ?_ | with_reducible refine dQ ?_ | with_reducible refine dR ?_ | with_reducible refine dS ?_ | with_reducible refine ag ?_)
 ·show false=true↔_
  have hl:¬ Asc c.Vals:=by
   intro hA;have:=hA (k - 1) (by omega)
   rw [show k - 1 + 1=k by omega] at this
   omega
  grind
 ·refine ⟨by omega,rfl,by omega,fun j hj hl => ?_⟩
  rcases Nat.lt_or_ge (j + 1) k with h3 | h3
  ·exact hJ j h3 hl
  ·have:j=k - 1:=by omega
   subst this
   rw [show k - 1 + 1=k by omega]
   omega
 ·show true=true↔_
  have hl:Asc c.Vals:=fun j hj=>hJ j (by omega) hj
  grind
 ·show true=true↔_
  grind
theorem Hm (c:Call) (k:Int) (hs:c.Vals.length < 2 ^ 61):Tri (dG c k) (fun r=>r=true↔xM c k):=by
 unfold dG qE xe xc Bd xM
 simp only [cond_true,cond_false]
 have he:=Ko (k:=c.Key)
 repeat' (first | contradiction | with_reducible refine aA (fun hq => ?_) (fun hq => ?_) | with_reducible refine aj (by first | omega | grind [cZ]) ?_ | with_reducible refine aD ?_ | with_reducible refine dA ?_ | with_reducible refine dQ ?_ | with_reducible refine dR ?_ | with_reducible refine dS ?_ | with_reducible refine ag ?_ | refine gX (RF hs) (fun r hr => ?_))
 all_goals grind
theorem TS {c:Call} (hs:c.Vals.length < 2 ^ 61) (hc:c.Kind=7):Tri (iter (oF c) 1) (fun r=>r=true↔(Asc c.Vals∧c.Vals.length≤64)):=by
 refine bX (k0:=1) (c.Vals.length + 1) (fun k x=>x=(k:Int)∧1≤k∧∀ j:Nat,j + 1 < k→j + 1 < c.Vals.length→idx c.Vals (j:Int) < idx c.Vals ((j + 1:Nat):Int)) (by omega) ⟨rfl,Nat.le_refl _,fun j h=>by omega⟩ ?_
 rintro k x hk ⟨rfl,a1,hJ⟩;unfold oF lF
 dsimp only
 have e:=pF (k:=k) (by omega) a1;have e2:=aZ (k:=k) (by omega)
 rw [e,e2]
 repeat' (first | contradiction | with_reducible refine aA (fun hq => ?_) (fun hq => ?_) | with_reducible refine aj (by first | omega | grind [cZ]) ?_ | with_reducible refine aD ?_ | with_reducible refine dA ?_ | with_reducible refine dQ ?_ | with_reducible refine dR ?_ | with_reducible refine dS ?_ | with_reducible refine ag ?_)
 ·show false=true↔_
  have hl:¬ Asc c.Vals:=by
   intro hA;have:=hA (k - 1) (by omega)
   rw [show k - 1 + 1=k by omega] at this
   omega
  grind
 ·refine ⟨by omega,rfl,by omega,fun j hj hl => ?_⟩
  rcases Nat.lt_or_ge j (k - 1) with h3 | h3
  ·exact hJ j (by omega) hl
  ·have:j=k - 1:=by omega
   subst this
   rw [show k - 1 + 1=k by omega]
   omega
 ·show decide _=true↔_
  have hl:Asc c.Vals:=fun j hj=>hJ j (by omega) hj
  grind
theorem JQ (c:Call) (k:Int) (hs:c.Vals.length < 2 ^ 61):Tri (bE c k) (fun r=>r=true↔xM c k):=by
 unfold bE jQ jP lF xM
 simp only [cond_true,cond_false]
 have ha:c.Vals.length=0→Asc c.Vals:=fun h j hj=>by omega
 repeat' (first | contradiction | with_reducible refine aA (fun hq => ?_) (fun hq => ?_) | with_reducible refine aj (by first | omega | grind [cZ]) ?_ | with_reducible refine aD ?_ | with_reducible refine dA ?_ | with_reducible refine dQ ?_ | with_reducible refine dR ?_ | with_reducible refine dS ?_ | with_reducible refine ag ?_ | refine gX (TS hs (by assumption)) (fun r hr => ?_))
 all_goals grind
def Small (l:List Call):Prop:=l.length < 2 ^ 61∧zn l (fun c=>c.Vals.length < 2 ^ 61)
theorem RG {l:List Call} {e:Event} (hs:Small l):Tri (eY l e) (fun r=>r=true ↔ ¬ zn l (fun c=>xM c e.Kind)):=by
 have h1:Tri (dh l e) (fun r=>0≤r ↔ ¬ zn l (fun c=>xM c e.Kind)):=by
  have hl:=hs.1;unfold dh;refine tH l.length (fun j=>xM (idx l (j:Int)) e.Kind) ?_;intro k hk hJ;unfold iM xR
  dsimp only
  repeat' (first | contradiction | with_reducible refine aA (fun hq => ?_) (fun hq => ?_) | with_reducible refine aj (by first | omega | grind [cZ]) ?_ | with_reducible refine aD ?_ | with_reducible refine dA ?_ | with_reducible refine dQ ?_ | with_reducible refine dR ?_ | with_reducible refine dS ?_ | with_reducible refine ag ?_ | refine dZ (Hm _ _ (hs.2 k (by omega))) (fun r hr => ?_))
  all_goals grind [Nxt,zn,cZ]
 unfold eY;refine dZ h1 (fun r hr => ?_)
 repeat' (first | contradiction | with_reducible refine aA (fun hq => ?_) (fun hq => ?_) | with_reducible refine aj (by first | omega | grind [cZ]) ?_ | with_reducible refine aD ?_ | with_reducible refine dA ?_ | with_reducible refine dQ ?_ | with_reducible refine dR ?_ | with_reducible refine dS ?_ | with_reducible refine ag ?_)
 grind
def Eu (e:Event):Prop:=0≤e.Kind∧e.Kind≤3∧e.Calls.length≤16∧zn e.Calls (fun c=>xM c e.Kind)
theorem Ho {e:Event} (hs:Small e.Calls):Tri (ji [e]) (fun r=>(r=0↔Eu e)∧(r=0∨r=1)):=by
 unfold ji;refine aA (fun h => ?_) (fun h => ?_)
 ·simp at h
 ·refine tH 1 (fun j=>Eu e) ?_;intro k hk hJ;unfold zL ug
  dsimp only
  have hi:k=0→idx [e] (k:Int)=e:=by rintro rfl; rfl
  simp only [cond_true,cond_false]
  have hc:=fun h:k=0=>RG (l:=e.Calls) (e:=e) hs
  by_cases h0:k=0
  ·rw [hi h0]
   repeat' (first | contradiction | with_reducible refine aA (fun hq => ?_) (fun hq => ?_) | with_reducible refine aj (by first | omega | grind [cZ]) ?_ | with_reducible refine aD ?_ | with_reducible refine dA ?_ | with_reducible refine dQ ?_ | with_reducible refine dR ?_ | with_reducible refine dS ?_ | with_reducible refine ag ?_ | refine dZ (hc h0) (fun r hr => ?_))
   all_goals grind [Nxt,Eu,cZ]
  ·repeat' (first | contradiction | with_reducible refine aA (fun hq => ?_) (fun hq => ?_) | with_reducible refine aj (by first | omega | grind [cZ]) ?_ | with_reducible refine aD ?_ | with_reducible refine dA ?_ | with_reducible refine dQ ?_ | with_reducible refine dR ?_ | with_reducible refine dS ?_ | with_reducible refine ag ?_ | refine dZ (hc (by grind)) (fun r hr => ?_))
   all_goals grind [Nxt,Eu,cZ]
theorem IG {e:Event} (hs:Small e.Calls):Tri (dF e) (fun r=>r=true↔Eu e):=by
 unfold dF kT
 simp only [cond_true,cond_false]
 have hl:=hs.1;have h1:Tri (iter (nK e) 0) (fun r=>r=true↔zn e.Calls (fun c=>xM c e.Kind)):=by
  refine tH e.Calls.length (fun j=>xM (idx e.Calls (j:Int)) e.Kind) ?_;intro k hk hJ;unfold nK
  dsimp only
  repeat' (first | contradiction | with_reducible refine aA (fun hq => ?_) (fun hq => ?_) | with_reducible refine aj (by first | omega | grind [cZ]) ?_ | with_reducible refine aD ?_ | with_reducible refine dA ?_ | with_reducible refine dQ ?_ | with_reducible refine dR ?_ | with_reducible refine dS ?_ | with_reducible refine ag ?_ | refine dZ (JQ _ _ (hs.2 k (by omega))) (fun r hr => ?_))
  all_goals grind [Nxt,zn,cZ]
 repeat' (first | contradiction | with_reducible refine aA (fun hq => ?_) (fun hq => ?_) | with_reducible refine aj (by first | omega | grind [cZ]) ?_ | with_reducible refine aD ?_ | with_reducible refine dA ?_ | with_reducible refine dQ ?_ | with_reducible refine dR ?_ | with_reducible refine dS ?_ | with_reducible refine ag ?_ | refine gX h1 (fun r hr => ?_))
 all_goals grind [Eu]
theorem Hq {e:Event} (hs:Small e.Calls):Tri (iq [e]) (fun r=>(r=0↔Eu e)∧(r=0∨r=1)):=by
 unfold iq;refine aA (fun h => ?_) (fun h => ?_)
 ·simp at h
 ·refine tH 1 (fun j=>Eu e) ?_;intro k hk hJ;unfold rZ
  dsimp only
  have hi:k=0→idx [e] (k:Int)=e:=by rintro rfl; rfl
  have hc:k=0→Tri (dF (idx [e] (k:Int))) (fun r=>r=true↔Eu e):=fun h0=>by rw [hi h0]; exact IG hs
  repeat' (first | contradiction | with_reducible refine aA (fun hq => ?_) (fun hq => ?_) | with_reducible refine aj (by first | omega | grind [cZ]) ?_ | with_reducible refine aD ?_ | with_reducible refine dA ?_ | with_reducible refine dQ ?_ | with_reducible refine dR ?_ | with_reducible refine dS ?_ | with_reducible refine ag ?_ | refine dZ (hc (by grind)) (fun r hr => ?_))
  all_goals grind [Nxt,cZ]
def Ag (h:History) (o:Op):Call:=⟨o.Kind,idx h.Keys o.Key,o.Arg,o.Got,o.Vals⟩
def eF (h:History) (t:Txn):List Call:=t.Ops.map (Ag h)
def DZ (h:History) (t:Txn):Event:=⟨0,t.Status,eF h t⟩
def Bv (h:History) (t:Txn):Prop:=zn t.Ops (fun o=>0≤o.Key∧o.Key < (h.Keys.length:Int))
def II (t:Txn):Prop:=t.Ops.length * 56≤140737488351232∧zn t.Ops (fun o=>o.Vals.length * 8≤140737488351232)
theorem II.small {h:History} {t:Txn} (hs:II t) (k:Nat):Small ((eF h t).take k):=by
 have h1:=hs.1;refine ⟨by simp [eF]; omega,fun j hj => ?_⟩
 have hj':j < k∧j < t.Ops.length:=by simp [eF] at hj; omega
 rw [Da hj'.1,eF,BC hj'.2]
 have:=hs.2 j hj'.2
 show (idx t.Ops (j:Int)).Vals.length < _
 omega
theorem Gb {h:History} {t:Txn} (hs:II t):Tri (fZ h t) (fun r=>(r.2=true↔Bv h t∧Eu (DZ h t))∧(r.2=true→r.1=DZ h t)):=by
 unfold fZ;have hl:=hs.1;refine yl t.Ops.length (fun k l=>l=(eF h t).take k∧∀ j:Nat,j < k→0≤(idx t.Ops (j:Int)).Key∧(idx t.Ops (j:Int)).Key < (h.Keys.length:Int)) ⟨rfl,by omega⟩ ?_
 rintro k l hk ⟨rfl,hJ⟩;have hlen:((eF h t).take k).length=k:=by simp [eF]; omega
 unfold yz uW yx
 simp only [cond_true,cond_false,hlen]
 have hsm:=Ho (e:=⟨0,t.Status,(eF h t).take k⟩) (hs.small k);have hfull:k=t.Ops.length→(eF h t).take k=eF h t:=fun e=>List.take_of_length_le (by simp [eF]; omega);have hnext:k < t.Ops.length→(eF h t).take (k + 1)=(eF h t).take k++[Ag h (idx t.Ops (k:Int))]:=fun hk=>by
  rw [tJ (by simpa [eF] using hk),eF,BC hk]
 repeat' (first | contradiction | with_reducible refine aA (fun hq => ?_) (fun hq => ?_) | with_reducible refine aj (by first | omega | grind [cZ]) ?_ | with_reducible refine aD ?_ | with_reducible refine dA ?_ | with_reducible refine dQ ?_ | with_reducible refine dR ?_ | with_reducible refine dS ?_ | with_reducible refine ag ?_ | refine dZ hsm (fun r hr => ?_))
 all_goals grind [Up2,Bv,zn,cZ,Ag,DZ]
def Kq (l:List Txn) (i:Nat):Prop:=∀ j:Nat,j < i → ¬ ((idx l (j:Int)).Proc=(idx l (i:Int)).Proc∧((idx l (j:Int)).To = -1∨(idx l (j:Int)).To ≥ (idx l (i:Int)).From))
def CF (l:List Txn) (i:Nat):Prop :=
 1≤(idx l (i:Int)).Status∧(idx l (i:Int)).Status≤3∧0≤(idx l (i:Int)).From∧((idx l (i:Int)).To = -1→(idx l (i:Int)).Status=3) ∧
  ((idx l (i:Int)).To ≠ -1→(idx l (i:Int)).From < (idx l (i:Int)).To)∧(0 < i→(idx l ((i - 1:Nat):Int)).From < (idx l (i:Int)).From)∧Kq l i
theorem PV {l:List Txn} {i:Nat} (hi:i < l.length) (hl:l.length < 2 ^ 61):Tri (eP (jT l 0 (i:Int)) (idx l (i:Int))) (fun r=>r=true ↔ ¬ Kq l i):=by
 have h1:Tri (cu (jT l 0 (i:Int)) (idx l (i:Int))) (fun r=>0≤r ↔ ¬ Kq l i):=by
  rw [sJ (by omega)]
  unfold cu;have ht:(l.take i).length=i:=by simp; omega
  refine tH i (fun j => ¬ ((idx l (j:Int)).Proc=(idx l (i:Int)).Proc∧((idx l (j:Int)).To = -1∨(idx l (j:Int)).To ≥ (idx l (i:Int)).From))) ?_;intro k hk hJ;unfold iD uX
  dsimp only
  rw [ht]
  have hx:k < i→idx (l.take i) (k:Int)=idx l (k:Int):=fun h=>Da h
  repeat' (first | contradiction | with_reducible refine aA (fun hq => ?_) (fun hq => ?_) | with_reducible refine aj (by first | omega | grind [cZ]) ?_ | with_reducible refine aD ?_ | with_reducible refine dA ?_ | with_reducible refine dQ ?_ | with_reducible refine dR ?_ | with_reducible refine dS ?_ | with_reducible refine ag ?_)
  all_goals grind [Nxt,Kq,cZ]
 unfold eP;refine dZ h1 (fun r hr => ?_)
 repeat' (first | contradiction | with_reducible refine aA (fun hq => ?_) (fun hq => ?_) | with_reducible refine aj (by first | omega | grind [cZ]) ?_ | with_reducible refine aD ?_ | with_reducible refine dA ?_ | with_reducible refine dQ ?_ | with_reducible refine dR ?_ | with_reducible refine dS ?_ | with_reducible refine ag ?_)
 grind
theorem Fa {l:List Txn} {i:Nat} (hi:i < l.length) (hl:l.length < 2 ^ 61):Tri (dE (jT l 0 (i:Int)) (idx l (i:Int))) (fun r=>r=true↔CF l i):=by
 have hf:=PV hi hl;have hlen:(jT l 0 (i:Int)).length=i:=by rw [sJ (by omega)]; simp; omega
 have hx:0 < i→idx (jT l 0 (i:Int)) (w64 ((i:Int) - 1))=idx l ((i - 1:Nat):Int):=fun h=>by
  rw [pF (by omega) (by omega),sJ (by omega),Da (by omega)]
 have hw:0 < i→w64 ((i:Int) - 1)=((i - 1:Nat):Int):=fun h=>pF (by omega) (by omega);unfold dE uu ut uq qx CF
 simp only [cond_true,cond_false,hlen]
 repeat' (first | contradiction | with_reducible refine aA (fun hq => ?_) (fun hq => ?_) | with_reducible refine aj (by first | omega | grind [cZ]) ?_ | with_reducible refine aD ?_ | with_reducible refine dA ?_ | with_reducible refine dQ ?_ | with_reducible refine dR ?_ | with_reducible refine dS ?_ | with_reducible refine ag ?_ | refine dZ hf (fun r hr => ?_))
 all_goals grind
theorem BP {l:List Txn} {i:Nat} (hi:i < l.length) (hl:l.length < 2 ^ 61):Tri (aY l (i:Int)) (fun r=>r=true↔CF l i):=by
 have h1:Tri (iter (mJ l (i:Int)) 0) (fun r=>r=true↔Kq l i):=by
  refine tH i (fun j => ¬ ((idx l (j:Int)).Proc=(idx l (i:Int)).Proc∧((idx l (j:Int)).To = -1∨(idx l (j:Int)).To ≥ (idx l (i:Int)).From))) ?_;intro k hk hJ;unfold mJ ku
  simp only [cond_true,cond_false]
  repeat' (first | contradiction | with_reducible refine aA (fun hq => ?_) (fun hq => ?_) | with_reducible refine aj (by first | omega | grind [cZ]) ?_ | with_reducible refine aD ?_ | with_reducible refine dA ?_ | with_reducible refine dQ ?_ | with_reducible refine dR ?_ | with_reducible refine dS ?_ | with_reducible refine ag ?_)
  all_goals grind [Nxt,Kq,cZ]
 have hw:0 < i→w64 ((i:Int) - 1)=((i - 1:Nat):Int):=fun h=>pF (by omega) (by omega);unfold aY eZ mK CF
 simp only [cond_true,cond_false]
 repeat' (first | contradiction | with_reducible refine aA (fun hq => ?_) (fun hq => ?_) | with_reducible refine aj (by first | omega | grind [cZ]) ?_ | with_reducible refine aD ?_ | with_reducible refine dA ?_ | with_reducible refine dQ ?_ | with_reducible refine dR ?_ | with_reducible refine dS ?_ | with_reducible refine ag ?_ | refine gX h1 (fun r hr => ?_))
 all_goals grind
def Pg (l:List ByteArray) (s:ByteArray) (r:Int):Prop :=
 (r = -1∧∀ j:Nat,j < l.length→idx l (j:Int)≠s)∨(∃ k:Nat,r=(k:Int)∧k < l.length∧idx l (k:Int)=s∧∀ j:Nat,j < k→idx l (j:Int)≠s)
theorem Gc {l:List ByteArray} {s:ByteArray} (hl:l.length < 2 ^ 61):Tri (gy l s) (Pg l s):=by
 unfold gy;refine tH l.length (fun j=>idx l (j:Int)≠s) ?_;intro k hk hJ;unfold tT
 dsimp only
 repeat' (first | contradiction | with_reducible refine aA (fun hq => ?_) (fun hq => ?_) | with_reducible refine aj (by first | omega | grind [cZ]) ?_ | with_reducible refine aD ?_ | with_reducible refine dA ?_ | with_reducible refine dQ ?_ | with_reducible refine dR ?_ | with_reducible refine dS ?_ | with_reducible refine ag ?_)
 ·exact .inr ⟨k,rfl,by omega,by assumption,hJ⟩
 ·grind [Nxt,cZ]
 ·exact .inl ⟨rfl,fun j hj=>hJ j (by omega)⟩
def Ev (l:List ByteArray) (i:Nat):Prop:=1≤(idx l (i:Int)).size∧(idx l (i:Int)).size≤32∧∀ j:Nat,j < i→idx l (j:Int)≠idx l (i:Int)
def wh (l:List ByteArray):Prop:=l.length≤32∧∀ i:Nat,i < l.length→Ev l i
theorem JR {l:List ByteArray} {s:ByteArray} (hl:l.length < 2 ^ 61):Tri (slices_Contains_string l s) (fun r=>r=true↔∃ j:Nat,j < l.length∧idx l (j:Int)=s):=by
 have h1:Tri (slices_Index_string l s) (fun r=>0≤r↔∃ j:Nat,j < l.length∧idx l (j:Int)=s):=by
  unfold slices_Index_string;refine tH l.length (fun j=>idx l (j:Int)≠s) ?_;intro k hk hJ;unfold pR
  dsimp only
  repeat' (first | contradiction | with_reducible refine aA (fun hq => ?_) (fun hq => ?_) | with_reducible refine aj (by first | omega | grind [cZ]) ?_ | with_reducible refine aD ?_ | with_reducible refine dA ?_ | with_reducible refine dQ ?_ | with_reducible refine dR ?_ | with_reducible refine dS ?_ | with_reducible refine ag ?_)
  all_goals grind [Nxt,cZ]
 unfold slices_Contains_string;refine dZ h1 (fun r hr => ?_)
 repeat' (first | contradiction | with_reducible refine aA (fun hq => ?_) (fun hq => ?_) | with_reducible refine aj (by first | omega | grind [cZ]) ?_ | with_reducible refine aD ?_ | with_reducible refine dA ?_ | with_reducible refine dQ ?_ | with_reducible refine dR ?_ | with_reducible refine dS ?_ | with_reducible refine ag ?_)
 grind
theorem IJ {l:List ByteArray} (hl:l.length < 2 ^ 61):Tri (dV l) (fun r=>r=true↔wh l):=by
 unfold dV;refine tH l.length (Ev l) ?_;intro k hk hJ;unfold rY kS
 simp only [cond_true,cond_false]
 have hf:Tri (gy (jT l 0 (k:Int)) (idx l (k:Int))) (fun r=>0≤r↔∃ j:Nat,j < k∧idx l (j:Int)=idx l (k:Int)):=by
  rw [sJ (by omega)]
  refine gX (Gc (by simp; omega)) (fun r hr => ?_);have ht:(l.take k).length=k:=by simp; omega
  have hx:∀ j:Nat,j < k→idx (l.take k) (j:Int)=idx l (j:Int):=fun j h=>Da h;unfold Pg at hr
  rw [ht] at hr
  grind
 have hN:wh l→k < l.length→Ev l k:=fun h hk=>h.2 k hk
 repeat' (first | contradiction | with_reducible refine aA (fun hq => ?_) (fun hq => ?_) | with_reducible refine aj (by first | omega | grind [cZ]) ?_ | with_reducible refine aD ?_ | with_reducible refine dA ?_ | with_reducible refine dQ ?_ | with_reducible refine dR ?_ | with_reducible refine dS ?_ | with_reducible refine ag ?_ | refine dZ hf (fun r hr => ?_))
 all_goals (have hNk:Ev l k↔(1≤(idx l (k:Int)).size∧(idx l (k:Int)).size≤32∧∀ j:Nat,j < k→idx l (j:Int)≠idx l (k:Int)):=Iff.rfl)
 all_goals grind [Nxt,wh,cZ]
end Go.Proofs.YtfpeabnehpclnaaGreatT
namespace Go.Proofs.YtfpeabnehpclnaaGreatT
open Go Go.Proofs Go.Proofs.YtfpeabnehpclnaaGreatE
set_option linter.unusedVariables false
set_option linter.unusedSimpArgs false
def typ (k:Int):Int:=(k - 1) % 4 + 1
theorem CG {k:Int} (h1:1≤k) (h2:k≤8):sN k=some (typ k):=by
 have:k=1∨k=2∨k=3∨k=4∨k=5∨k=6∨k=7∨k=8:=by omega
 rcases this with h | h | h | h | h | h | h | h <;> subst h <;> decide
theorem Dn {k:Int} (h1:1≤k) (h2:k≤8):jG k=some (typ k):=by
 have:k=1∨k=2∨k=3∨k=4∨k=5∨k=6∨k=7∨k=8:=by omega
 rcases this with h | h | h | h | h | h | h | h <;> subst h <;> decide
structure Sim (g:bT) (b:aR) (n:Nat):Prop where
 keys:g.keys=b.keys
 types:g.types=b.types
 len:b.keys.length≤32
 tl:b.types.length=b.keys.length
 wl:b.wrote.length=b.keys.length
 il:b.incs.length=b.keys.length
 ll:b.last_.length=b.keys.length
 nd:∀ i j:Nat,i < b.keys.length→j < b.keys.length→idx b.keys (i:Int)=idx b.keys (j:Int)→i=j
 has:∀ s,kZ g.at_ s=true↔∃ j:Nat,j < b.keys.length∧idx b.keys (j:Int)=s
 at_:∀ j:Nat,j < b.keys.length→mat g.at_ (idx b.keys (j:Int))=(j:Int)
 facts:∀ j:Nat,j < b.keys.length→∀ a,kZ g.facts ⟨idx b.keys (j:Int),a⟩=true↔∃ m:Nat,m < (idx b.wrote (j:Int)).length∧idx (idx b.wrote (j:Int)) (m:Int)=a
 fout:∀ s a,kZ g.facts ⟨s,a⟩=true→∃ j:Nat,j < b.keys.length∧idx b.keys (j:Int)=s
 wn:∀ j:Nat,j < b.keys.length→(idx b.wrote (j:Int)).length≤n
 incs:∀ j:Nat,j < b.keys.length→((mat g.incs (idx b.keys (j:Int))).length:Int)=idx b.incs (j:Int)
 i8:∀ j:Nat,j < b.keys.length→(mat g.incs (idx b.keys (j:Int))).length≤8
 iout:∀ s,(∀ j:Nat,j < b.keys.length→idx b.keys (j:Int)≠s)→mat g.incs s=[]
 last:∀ j:Nat,j < b.keys.length→((mat g.incs (idx b.keys (j:Int))).length=0→idx b.last_ (j:Int) = -1) ∧
  (0 < (mat g.incs (idx b.keys (j:Int))).length→idx b.last_ (j:Int)=idx (mat g.incs (idx b.keys (j:Int))) (((mat g.incs (idx b.keys (j:Int))).length - 1:Nat):Int))
theorem Sim.start:Sim ⟨[],[],[],[],[]⟩ ⟨[],[],[],[],[]⟩ 0:=by
 refine ⟨rfl,rfl,by simp,rfl,rfl,rfl,rfl,?_,?_,?_,?_,?_,?_,?_,?_,?_,?_⟩
 all_goals simp [Nl,Ut]
 rfl
theorem Sim.mono {g:bT} {b:aR} {n m:Nat} (h:Sim g b n) (hm:n≤m):Sim g b m :=
 { h with wn:=fun j hj=>Nat.le_trans (h.wn j hj) hm }
theorem Sim.new {g:bT} {b:aR} {n:Nat} (h:Sim g b n) {s:ByteArray} {t:Int} (hn:∀ j:Nat,j < b.keys.length→idx b.keys (j:Int)≠s) (a2:b.keys.length < 32) :
  Sim ⟨g.keys++[s],iB g.at_ s (g.keys.length:Int),g.types++[t],g.facts,g.incs⟩ ⟨b.keys++[s],b.types++[t],b.wrote++[[]],b.incs++[0],b.last_++[-1]⟩ n:=by
 have hk:=h.keys;have hl:(b.keys++[s]).length=b.keys.length + 1:=by simp
 have k1:∀ j:Nat,j < b.keys.length→idx (b.keys++[s]) (j:Int)=idx b.keys (j:Int):=fun j hj=>nY hj;have k2:idx (b.keys++[s]) ((b.keys.length:Nat):Int)=s:=mZ rfl;have w1:∀ j:Nat,j < b.keys.length→idx (b.wrote++[[]]) (j:Int)=idx b.wrote (j:Int):=fun j hj=>nY (by rw [h.wl]; exact hj);have w2:idx (b.wrote++[[]]) ((b.keys.length:Nat):Int)=[]:=mZ h.wl.symm;have i1:∀ j:Nat,j < b.keys.length→idx (b.incs++[0]) (j:Int)=idx b.incs (j:Int):=fun j hj=>nY (by rw [h.il]; exact hj);have i2:idx (b.incs++[0]) ((b.keys.length:Nat):Int)=0:=mZ h.il.symm;have l1:∀ j:Nat,j < b.keys.length→idx (b.last_++[-1]) (j:Int)=idx b.last_ (j:Int):=fun j hj=>nY (by rw [h.ll]; exact hj);have l2:idx (b.last_++[-1]) ((b.keys.length:Nat):Int) = -1:=mZ h.ll.symm;have a1:=h.iout s hn;have cut:∀ j:Nat,j < b.keys.length + 1→j < b.keys.length∨j=b.keys.length:=by omega
 refine ⟨by simp [hk],by simp [h.types],by simp; omega,by simp [h.tl],by simp [h.wl],by simp [h.il],by simp [h.ll],?_,?_,?_,?_,?_,?_,?_,?_,?_,?_⟩
 ·intro i j hi hj he
  dsimp only at hi hj he
  rw [hl] at hi hj
  have:=h.nd i j;rcases cut i hi with hi' | hi' <;> rcases cut j hj with hj' | hj' <;> grind
 ·intro x
  dsimp only
  rw [AX,hl,h.has]
  constructor
  ·rintro (rfl | ⟨j,hj,he⟩)
   ·exact ⟨_,Nat.lt_succ_self _,k2⟩
   ·exact ⟨j,by omega,(k1 j hj).trans he⟩
  ·rintro ⟨j,hj,he⟩;rcases cut j hj with hj' | hj'
   ·exact .inr ⟨j,hj',(k1 j hj') ▸ he⟩
   ·subst hj'; exact .inl (k2.symm.trans he).symm
 ·intro j hj
  dsimp only at hj ⊢
  rw [hl] at hj
  rw [zD,hk]
  rcases cut j hj with hj' | hj'
  ·rw [k1 j hj',if_neg (hn j hj')]; exact h.at_ j hj'
  ·subst hj'; rw [k2,if_pos rfl]
 ·intro j hj a
  dsimp only at hj ⊢
  rw [hl] at hj
  rcases cut j hj with hj' | hj'
  ·rw [k1 j hj',w1 j hj']; exact h.facts j hj' a
  ·subst hj'
   rw [k2,w2]
   constructor
   ·intro hh;obtain ⟨i,hi,he⟩:=h.fout s a hh;exact absurd he (hn i hi)
   ·rintro ⟨m,hm,_⟩; simp at hm
 ·intro x a hh;obtain ⟨i,hi,he⟩:=h.fout x a hh;exact ⟨i,by simp; omega,(k1 i hi).trans he⟩
 ·intro j hj
  dsimp only at hj ⊢
  rw [hl] at hj
  rcases cut j hj with hj' | hj'
  ·rw [w1 j hj']; exact h.wn j hj'
  ·subst hj'; rw [w2]; simp
 ·intro j hj
  dsimp only at hj ⊢
  rw [hl] at hj
  rcases cut j hj with hj' | hj'
  ·rw [k1 j hj',i1 j hj']; exact h.incs j hj'
  ·subst hj'; rw [k2,i2,a1]; rfl
 ·intro j hj
  dsimp only at hj ⊢
  rw [hl] at hj
  rcases cut j hj with hj' | hj'
  ·rw [k1 j hj']; exact h.i8 j hj'
  ·subst hj'; rw [k2,a1]; simp
 ·intro x hx
  dsimp only at hx ⊢
  rw [hl] at hx
  exact h.iout x (fun j hj=>by rw [← k1 j hj]; exact hx j (by omega))
 ·intro j hj
  dsimp only at hj ⊢
  rw [hl] at hj
  rcases cut j hj with hj' | hj'
  ·rw [k1 j hj',l1 j hj']; exact h.last j hj'
  ·subst hj'; rw [k2,l2,a1]; simp
theorem Sim.write {g:bT} {b:aR} {n k:Nat} (h:Sim g b n) {s:ByteArray} {a:Int} (hk:k < b.keys.length) (hs:idx b.keys (k:Int)=s) :
  Sim ⟨g.keys,g.at_,g.types,iB g.facts ⟨s,a⟩ (),g.incs⟩ ⟨b.keys,b.types,b.wrote.set k (idx b.wrote (k:Int)++[a]),b.incs,b.last_⟩ (n + 1):=by
 have w1:∀ j:Nat,idx (b.wrote.set k (idx b.wrote (k:Int)++[a])) (j:Int)=if j=k then idx b.wrote (k:Int)++[a] else idx b.wrote (j:Int):=fun j=>xH (by rw [h.wl]; exact hk);refine ⟨h.keys,h.types,h.len,h.tl,by simp [h.wl],h.il,h.ll,h.nd,h.has,h.at_,?_,?_,?_,h.incs,h.i8,h.iout,h.last⟩
 ·intro j hj x
  dsimp only at hj ⊢
  rw [AX,w1 j,h.facts j hj]
  by_cases e:j=k
  ·subst e
   rw [if_pos rfl,hs]
   constructor
   ·rintro (he | ⟨m,hm,he⟩)
    ·have:x=a:=by injection he
     subst this;exact ⟨_,by simp,mZ rfl⟩
    ·exact ⟨m,by simp; omega,(nY hm).trans he⟩
   ·rintro ⟨m,hm,he⟩;rcases Nat.lt_or_ge m (idx b.wrote (j:Int)).length with h1 | h1
    ·exact .inr ⟨m,h1,(nY h1).symm.trans he⟩
    ·simp at hm
     rw [mZ (by omega)] at he
     rw [he]; exact .inl rfl
  ·rw [if_neg e]
   constructor
   ·rintro (he | hh)
    ·injection he with h1 h2
     exact absurd (h.nd j k hj hk (h1.trans hs.symm)) e
    ·exact hh
   ·exact .inr
 ·intro x y hh
  dsimp only at hh ⊢
  rcases AX.1 hh with he | hh
  ·injection he with h1 h2
   exact ⟨k,hk,hs.trans h1.symm⟩
  ·exact h.fout x y hh
 ·intro j hj
  dsimp only at hj ⊢
  rw [w1 j]
  have:=h.wn j hj
  split
  ·rename_i e; subst e; simp; omega
  ·omega
theorem Sim.inc {g:bT} {b:aR} {n k:Nat} (h:Sim g b n) {s:ByteArray} {a:Int} (hk:k < b.keys.length) (hs:idx b.keys (k:Int)=s) (h8:(mat g.incs s).length < 8) :
  Sim ⟨g.keys,g.at_,g.types,g.facts,iB g.incs s (mat g.incs s++[a])⟩ ⟨b.keys,b.types,b.wrote,b.incs.set k (idx b.incs (k:Int) + 1),b.last_.set k a⟩ n:=by
 have i1:∀ j:Nat,idx (b.incs.set k (idx b.incs (k:Int) + 1)) (j:Int)=if j=k then idx b.incs (k:Int) + 1 else idx b.incs (j:Int):=fun j=>xH (by rw [h.il]; exact hk);have l1:∀ j:Nat,idx (b.last_.set k a) (j:Int)=if j=k then a else idx b.last_ (j:Int):=fun j=>xH (by rw [h.ll]; exact hk);have hne:∀ j:Nat,j < b.keys.length→j≠k→idx b.keys (j:Int)≠s:=fun j hj e he=>e (h.nd j k hj hk (he.trans hs.symm));refine ⟨h.keys,h.types,h.len,h.tl,h.wl,by simp [h.il],by simp [h.ll],h.nd,h.has,h.at_,h.facts,h.fout,h.wn,?_,?_,?_,?_⟩
 ·intro j hj
  dsimp only at hj ⊢
  rw [zD,i1 j]
  by_cases e:j=k
  ·subst e
   rw [if_pos hs,if_pos rfl,← h.incs j hj,hs]; simp
  ·rw [if_neg (hne j hj e),if_neg e]; exact h.incs j hj
 ·intro j hj
  dsimp only at hj ⊢
  rw [zD]
  by_cases e:j=k
  ·subst e
   rw [if_pos hs]; simp; omega
  ·rw [if_neg (hne j hj e)]; exact h.i8 j hj
 ·intro x hx
  dsimp only at hx ⊢
  rw [zD,if_neg (fun e=>hx k hk (hs.trans e.symm))]
  exact h.iout x hx
 ·intro j hj
  dsimp only at hj ⊢
  rw [zD,l1 j]
  by_cases e:j=k
  ·subst e
   rw [if_pos hs,if_pos rfl]
   refine ⟨fun h0=>by simp at h0,fun _ => ?_⟩
   rw [mZ (by simp)]
  ·rw [if_neg (hne j hj e),if_neg e]; exact h.last j hj
theorem NR {c:Call} {who:Int} {a3:List ByteArray} {a4:List Int} {a1:List (List Int)} {a2 a5:List Int} {k:Nat} {Q:Int×aR→Prop} (hk:k < a1.length) (hb:(idx a1 (k:Int)).length≤4096)
  (h1:(∃ m:Nat,m < (idx a1 (k:Int)).length∧idx (idx a1 (k:Int)) (m:Int)=c.Arg)→Q (3,⟨a3,a4,a1,a2,a5⟩))
  (h2:(¬ ∃ m:Nat,m < (idx a1 (k:Int)).length∧idx (idx a1 (k:Int)) (m:Int)=c.Arg)→Tri (gM c who a3 a4 a2 a5 (k:Int) (a1.set k (idx a1 (k:Int)++[c.Arg]))) Q) :
  Tri (iter (jW c who a3 a4 a1 a2 a5 (k:Int)) 0) Q:=by
 refine tH (idx a1 (k:Int)).length (fun m=>idx (idx a1 (k:Int)) (m:Int)≠c.Arg) ?_;intro m hm hJ;unfold jW
 dsimp only
 rw [Int.toNat_natCast]
 repeat' (first | contradiction | with_reducible refine aA (fun hq => ?_) (fun hq => ?_) | with_reducible refine aj (by first | omega | grind [cZ]) ?_ | with_reducible refine aD ?_ | with_reducible refine dA ?_ | with_reducible refine dQ ?_ | with_reducible refine dR ?_ | with_reducible refine dS ?_ | with_reducible refine ag ?_)
 ·exact h1 ⟨m,by omega,by assumption⟩
 ·grind [Nxt,cZ]
 ·exact h2 (by grind)
def Both (r:Int×bT) (n:Nat) (r':Int×aR):Prop:=r.1=r'.1∧(r.1=0→Sim r.2 r'.2 n)
def NS (b:aR) (c:Call) (who:Int) (k:Nat) (r:Int×aR):Prop :=
 (idx b.types (k:Int)≠typ c.Kind∧r=(50,b)) ∨
 (idx b.types (k:Int)=typ c.Kind∧(c.Kind=2∨c.Kind=3)∧(∃ m:Nat,m < (idx b.wrote (k:Int)).length∧idx (idx b.wrote (k:Int)) (m:Int)=c.Arg)∧r=(3,b)) ∨
 (idx b.types (k:Int)=typ c.Kind∧(c.Kind=2∨c.Kind=3)∧(¬ ∃ m:Nat,m < (idx b.wrote (k:Int)).length∧idx (idx b.wrote (k:Int)) (m:Int)=c.Arg) ∧
  r=(0,⟨b.keys,b.types,b.wrote.set k (idx b.wrote (k:Int)++[c.Arg]),b.incs,b.last_⟩)) ∨
 (idx b.types (k:Int)=typ c.Kind∧c.Kind=4∧idx b.last_ (k:Int)≠who∧idx b.incs (k:Int) + 1 > 8∧r.1=51) ∨
 (idx b.types (k:Int)=typ c.Kind∧c.Kind=4∧idx b.last_ (k:Int)≠who∧idx b.incs (k:Int) + 1≤8 ∧
  r=(0,⟨b.keys,b.types,b.wrote,b.incs.set k (idx b.incs (k:Int) + 1),b.last_.set k who⟩)) ∨
 (idx b.types (k:Int)=typ c.Kind∧c.Kind=4∧idx b.last_ (k:Int)=who∧r=(0,b)) ∨
 (idx b.types (k:Int)=typ c.Kind∧c.Kind≠2∧c.Kind≠3∧c.Kind≠4∧r=(0,b))
theorem Lf {b:aR} {k:Nat} {c:Call} {who:Int} (hk:k < b.keys.length) (t1:b.types.length=b.keys.length) (t2:b.wrote.length=b.keys.length) (t3:b.incs.length=b.keys.length)
  (t4:b.last_.length=b.keys.length) (hwr:(idx b.wrote (k:Int)).length≤4096) (hin:0≤idx b.incs (k:Int)∧idx b.incs (k:Int)≤8)
  (h1:1≤c.Kind) (h8:c.Kind≤8):Tri (fD c who b.keys b.types b.wrote b.incs b.last_ (k:Int)) (NS b c who k):=by
 have e1:w64 (idx b.incs (k:Int) + 1)=idx b.incs (k:Int) + 1:=cZ (by omega) (by omega);have e2:idx (b.incs.set k (idx b.incs (k:Int) + 1)) (k:Int)=idx b.incs (k:Int) + 1:=by rw [xH (by omega),if_pos rfl]
 unfold fD jX gM iR iQ
 simp only [cond_true,cond_false,Dn h1 h8,Int.toNat_natCast,e1,e2]
 repeat' (first | contradiction | with_reducible refine aA (fun hq => ?_) (fun hq => ?_) | with_reducible refine aj (by first | omega | grind [cZ]) ?_ | with_reducible refine aD ?_ | with_reducible refine dA ?_ | with_reducible refine dQ ?_ | with_reducible refine dR ?_ | with_reducible refine dS ?_ | with_reducible refine ag ?_ | refine NR (by omega) hwr (fun h => ?_) (fun h => ?_))
 all_goals try unfold gM iR iQ
 all_goals try simp only [cond_true,cond_false,Int.toNat_natCast,e1,e2]
 repeat' (first | contradiction | with_reducible refine aA (fun hq => ?_) (fun hq => ?_) | with_reducible refine aj (by first | omega | grind [cZ]) ?_ | with_reducible refine aD ?_ | with_reducible refine dA ?_ | with_reducible refine dQ ?_ | with_reducible refine dR ?_ | with_reducible refine dS ?_ | with_reducible refine ag ?_)
 all_goals grind [NS]
theorem enter_at {g:bT} {b:aR} {n k:Nat} {a0:bT} {c:Call} {who:Int} (h:Sim g b n) (hf:a0.facts=g.facts) (hi:a0.incs=g.incs) (hk:k < b.keys.length) (hs:idx b.keys (k:Int)=c.Key)
  (h1:1≤c.Kind) (h8:c.Kind≤8) (hw:0≤who) (hn:n≤2048) :
  Tri (ko a0 c who g.keys g.at_ g.types (k:Int)) (fun r=>Tri (fD c who b.keys b.types b.wrote b.incs b.last_ (k:Int)) (Both r (n + 1))):=by
 obtain ⟨gk,ga,gt,gf,gi⟩:=g
 dsimp only at hf hi
 have htl:=h.types;have hkk:=h.keys
 dsimp only at htl hkk ⊢
 subst htl hkk;have t1:=h.tl;have t2:=h.wl;have t3:=h.il;have t4:=h.ll;have hfa:=h.facts k hk c.Arg;have hin:=h.incs k hk;have a1:=h.i8 k hk;have hla:=h.last k hk;have hwr:=h.wn k hk
 rw [hs] at hfa hin a1 hla
 dsimp only at hfa hin a1 hla
 obtain ⟨r',hr',spec⟩:=Lf (who:=who) hk t1 t2 t3 t4 (by omega) (by omega) h1 h8;have s0:=h.mono (Nat.le_succ n);have s1:=h.write (a:=c.Arg) hk hs;have s2:(mat gi c.Key).length < 8→_:=fun hl=>(h.inc (a:=who) hk hs hl).mono (Nat.le_succ n)
 dsimp only at s1 s2
 have e3:0 < (mat gi c.Key).length→w64 (((mat gi c.Key).length:Int) - 1)=(((mat gi c.Key).length - 1:Nat):Int):=fun h=>pF (by omega) (by omega);have m1:mat (iB gi c.Key (mat gi c.Key++[who])) c.Key=mat gi c.Key++[who]:=by rw [zD,if_pos rfl]
 unfold ko mH qI mG mF kg
 simp only [cond_true,cond_false,CG h1 h8,hf,hi,m1]
 repeat' (first | contradiction | with_reducible refine aA (fun hq => ?_) (fun hq => ?_) | with_reducible refine aj (by first | omega | grind [cZ]) ?_ | with_reducible refine aD ?_ | with_reducible refine dA ?_ | with_reducible refine dQ ?_ | with_reducible refine dR ?_ | with_reducible refine dS ?_ | with_reducible refine ag ?_)
 all_goals refine ⟨r',hr',?_⟩
 all_goals unfold NS at spec
 all_goals simp only [Both]
 all_goals grind
theorem NT {g:bT} {b:aR} {n:Nat} {c:Call} {who:Int} (h:Sim g b n) (h1:1≤c.Kind) (h8:c.Kind≤8) (hw:0≤who) (hn:n≤2048) :
  Tri (aN g c who) (fun r=>Tri (az b c who) (Both r (n + 1))):=by
 have hl:=h.len;have t1:=h.tl;have t2:=h.wl;have t3:=h.il;have t4:=h.ll;have hk:=h.keys;have ht:=h.types;obtain ⟨r0,a3,hf⟩:=Gc (l:=b.keys) (s:=c.Key) (by omega);rcases hf with ⟨rfl,hno⟩ | ⟨k,rfl,a2,a1,_⟩
 ·have hm:¬ kZ g.at_ c.Key=true:=fun hh=>by
   obtain ⟨j,hj,he⟩:=(h.has c.Key).1 hh;exact hno j hj he
  unfold aN az qJ
  simp only [a3,CG h1 h8,hk,ht]
  refine aA (fun _ => ?_) (fun hh=>absurd hm hh);refine aA (fun a4 => ?_) (fun a4 => ?_)
  ·refine ag (dA ?_)
   repeat' (first | contradiction | with_reducible refine aA (fun hq => ?_) (fun hq => ?_) | with_reducible refine aj (by first | omega | grind [cZ]) ?_ | with_reducible refine aD ?_ | with_reducible refine dA ?_ | with_reducible refine dQ ?_ | with_reducible refine dR ?_ | with_reducible refine dS ?_ | with_reducible refine ag ?_)
   ·exact ⟨rfl,fun h=>by cases h⟩
   ·omega
  ·have hS:=h.new (s:=c.Key) (t:=typ c.Kind) hno (by omega)
   rw [hk,ht] at hS
   have he:=enter_at (a0:=g) (who:=who) hS rfl rfl (k:=b.keys.length) (by simp) (mZ rfl) h1 h8 hw hn
   dsimp only at he
   refine aj (by omega) (dA (aj (by omega) ?_));refine gX he (fun r hr => ?_);unfold jZ jY
   simp only [Dn h1 h8]
   repeat' (first | contradiction | with_reducible refine aA (fun hq => ?_) (fun hq => ?_) | with_reducible refine aj (by first | omega | grind [cZ]) ?_ | with_reducible refine aD ?_ | with_reducible refine dA ?_ | with_reducible refine dQ ?_ | with_reducible refine dR ?_ | with_reducible refine dS ?_ | with_reducible refine ag ?_ | exact hr)
   omega
 ·have hm:kZ g.at_ c.Key=true:=(h.has c.Key).2 ⟨k,a2,a1⟩;have hat:mat g.at_ c.Key=(k:Int):=by rw [← a1]; exact h.at_ k a2
  have he:=enter_at (a0:=g) (who:=who) h rfl rfl a2 a1 h1 h8 hw hn;unfold aN az
  simp only [a3,hat]
  refine aA (fun hh=>absurd hm hh) (fun _ => ?_);refine gX he (fun r hr=>dA ?_)
  repeat' (first | contradiction | with_reducible refine aA (fun hq => ?_) (fun hq => ?_) | with_reducible refine aj (by first | omega | grind [cZ]) ?_ | with_reducible refine aD ?_ | with_reducible refine dA ?_ | with_reducible refine dQ ?_ | with_reducible refine dR ?_ | with_reducible refine dS ?_ | with_reducible refine ag ?_ | exact hr)
abbrev GS:=List ByteArray×(List (ByteArray×Int))×List Int×(List (eu×Unit))×(List (ByteArray×(List Int)))×Int
abbrev BS:=List ByteArray×List Int×(List (List Int))×List Int×List Int×Int
def MG (g:bT) (x:Int):GS:=(g.keys,g.at_,g.types,g.facts,g.incs,x)
def Fb (b:aR) (x:Int):BS:=(b.keys,b.types,b.wrote,b.incs,b.last_,x)
def Go1 (i n:Nat):GS ⊕ (Int ⊕ Int)→(List Call×Int) ⊕ (BS ⊕ Int)→Prop
 | .inl s,.inr (.inl t)=>∃ g b,s=MG g ((i + 1:Nat):Int)∧t=Fb b ((i + 1:Nat):Int)∧Sim g b n
 | .inr (.inr a),.inr (.inr b)=>a=1∧b=1
 | _,_=>False
theorem enters {g:bT} {b:aR} {n i:Nat} {l:List Call} {y:Event×Bool} (h:Sim g b n) (hy:y.1.Calls=l) (hl:l.length≤16) (hi:i < 64) (hn:n≤1024) (hc:zn l (fun c=>1≤c.Kind∧c.Kind≤8)) :
  Tri (iter (uY (i:Int) y) (MG g 0)) (fun x=>Tri (iter (iI (i:Int) l) (Fb b 0)) (Go1 i (n + 16) x)):=by
 refine Gv l.length (fun k s t=>∃ g b,s=MG g (k:Int)∧t=Fb b (k:Int)∧Sim g b (n + k)) (Nat.zero_le _) ⟨g,b,rfl,rfl,h⟩ ?_;rintro k s t hk ⟨g,b,rfl,rfl,hS⟩;unfold uY iI MG Fb
 dsimp only
 rw [hy]
 refine aA (fun h => ?_) (fun h => ?_)
 ·refine aj (by omega) ?_;obtain ⟨r,hr,r',hr',hb⟩:=NT (who:=(i:Int)) hS (hc k (by omega)).1 (hc k (by omega)).2 (by omega) (by omega);refine bA hr ?_;have hw:w64 ((k:Int) + 1)=((k + 1:Nat):Int):=aZ (by omega)
  rw [hw]
  repeat' (first | contradiction | with_reducible refine aA (fun hq => ?_) (fun hq => ?_) | with_reducible refine aj (by first | omega | grind [cZ]) ?_ | with_reducible refine aD ?_ | with_reducible refine dA ?_ | with_reducible refine dQ ?_ | with_reducible refine dR ?_ | with_reducible refine dS ?_ | with_reducible refine ag ?_ | refine bA hr' ?_)
  ·exact ⟨rfl,rfl⟩
  ·exact absurd (by rw [hb.1]; omega) ‹r.1≠0›
  ·exact absurd (by rw [← hb.1]; omega) ‹r'.1≠0›
  ·exact ⟨by omega,r.2,r'.2,rfl,rfl,hb.2 (by omega)⟩
 ·have hw:w64 ((i:Int) + 1)=((i + 1:Nat):Int):=aZ (by omega)
  rw [hw]
  repeat' (first | contradiction | with_reducible refine aA (fun hq => ?_) (fun hq => ?_) | with_reducible refine aj (by first | omega | grind [cZ]) ?_ | with_reducible refine aD ?_ | with_reducible refine dA ?_ | with_reducible refine dQ ?_ | with_reducible refine dR ?_ | with_reducible refine dS ?_ | with_reducible refine ag ?_)
  exact ⟨g,b,rfl,rfl,hS.mono (by omega)⟩
theorem Lg {h:History} {i:Nat} {b:aR} {Q:BS ⊕ Int→Prop} (hi:i < h.Txns.length) (hs:II (idx h.Txns (i:Int))) (a2:(idx h.Txns (i:Int)).Ops.length≤16)
  (h1:¬ (Bv h (idx h.Txns (i:Int))∧Eu (DZ h (idx h.Txns (i:Int))))→Q (.inr 1))
  (h2:Bv h (idx h.Txns (i:Int))→Eu (DZ h (idx h.Txns (i:Int)))→Tri (iter (iI (i:Int) (eF h (idx h.Txns (i:Int)))) (Fb b 0)) (fun x=>match x with | .inl _=>False | .inr y=>Q y)) :
  Tri (iter (iJ h b.keys b.types b.wrote b.incs b.last_ (i:Int)) ([],0)) Q:=by
 generalize ht:idx h.Txns (i:Int)=t at hs a2 h1 h2;refine yl t.Ops.length (fun k l=>l=(eF h t).take k∧∀ j:Nat,j < k→0≤(idx t.Ops (j:Int)).Key∧(idx t.Ops (j:Int)).Key < (h.Keys.length:Int)) ⟨rfl,by omega⟩ ?_
 rintro k l hk ⟨rfl,hJ⟩;have hlen:((eF h t).take k).length=k:=by simp [eF]; omega
 unfold iJ nL si
 simp only [cond_true,cond_false,hlen,ht]
 have hsm:=Hq (e:=⟨0,t.Status,(eF h t).take k⟩) (hs.small k);have hfull:k=t.Ops.length→(eF h t).take k=eF h t:=fun e=>List.take_of_length_le (by simp [eF]; omega);have hnext:k < t.Ops.length→(eF h t).take (k + 1)=(eF h t).take k++[Ag h (idx t.Ops (k:Int))]:=fun hk=>by
  rw [tJ (by simpa [eF] using hk),eF,BC hk]
 have hw:w64 ((k:Int) + 1)=((k + 1:Nat):Int):=aZ (by omega)
 rw [hw]
 repeat' (first | contradiction | with_reducible refine aA (fun hq => ?_) (fun hq => ?_) | with_reducible refine aj (by first | omega | grind [cZ]) ?_ | with_reducible refine aD ?_ | with_reducible refine dA ?_ | with_reducible refine dQ ?_ | with_reducible refine dR ?_ | with_reducible refine dS ?_ | with_reducible refine ag ?_ | refine dZ hsm (fun r hr => ?_))
 ·grind [Up2,Bv,zn]
 ·grind [Up2,Bv,zn]
 ·grind [Up2,Ag]
 ·have a1:k=t.Ops.length:=by omega
  rw [hfull a1] at hr
  refine h1 (fun hh => ?_);have:=hr.1.2 hh.2
  contradiction
 ·have a1:k=t.Ops.length:=by omega
  rw [hfull a1] at hr ⊢
  have hK:Bv _ t:=fun j hj=>hJ j (by omega);refine gX (h2 hK (hr.1.1 (by omega))) ?_;rintro (x | y) hxy
  ·exact hxy.elim
  ·exact hxy
def Fe (h:History) (i:Nat):Prop:=CF h.Txns i∧Bv h (idx h.Txns (i:Int))∧Eu (DZ h (idx h.Txns (i:Int)))
def qo (h:History):Prop:=h.Keys.length * 16≤140737488351232∧h.Txns.length * 56≤140737488351232∧zn h.Txns II
theorem PW {h:History} (hs:qo h) (hN:wh h.Keys) (a9:h.Txns.length≤32) :
  Tri (iter (rQ h) (MG ⟨[],[],[],[],[]⟩ 0)) (fun x=>Tri (iter (kV h) (Fb ⟨[],[],[],[],[]⟩ 0)) (fun y=>(∃ v,x = .inr v∧v=y)∧(y=0∨y=1))):=by
 obtain ⟨b0,a8,a2⟩:=hs;refine Gv h.Txns.length (fun k s t=>∃ g b,s=MG g (k:Int)∧t=Fb b (k:Int)∧Sim g b (k * 16)∧∀ j:Nat,j < k→Fe h j) (Nat.zero_le _) ⟨_,_,rfl,rfl,Sim.start,fun j hj=>absurd hj (Nat.not_lt_zero _)⟩ ?_;rintro k s t hk ⟨g,b,rfl,rfl,hS,hJ⟩;unfold rQ uZ kV kU MG Fb
 simp only [cond_true,cond_false]
 refine aA (fun a7 => ?_) (fun a7 => ?_)
 ·have a1:k < h.Txns.length:=by omega
  obtain ⟨r,hr,a5,a6⟩:=Gb (h:=h) (a2 k a1);obtain ⟨p,hp,a3⟩:=Fa (l:=h.Txns) a1 (by omega);obtain ⟨p',hp',hp1'⟩:=BP (l:=h.Txns) a1 (by omega);have hco:Eu (DZ h (idx h.Txns (k:Int)))→(idx h.Txns (k:Int)).Ops.length≤16:=fun he=>by
   have:=he.2.2.1
   simpa [DZ,eF] using this
  refine aj (by omega) (bA hr ?_)
  by_cases hok:Fe h k
  ·have e1:r.2=true:=a5.2 ⟨hok.2.1,hok.2.2⟩;have e2:p=true:=a3.2 hok.1;have e3:p'=true:=hp1'.2 hok.1;have hc:zn (eF h (idx h.Txns (k:Int))) (fun c=>1≤c.Kind∧c.Kind≤8):=fun j hj=>⟨(hok.2.2.2.2.2 j hj).1,(hok.2.2.2.2.2 j hj).2.1⟩;obtain ⟨x,hx,y,hy,hxy⟩:=enters (y:=r) (i:=k) hS (congrArg Event.Calls (a6 e1)) hok.2.2.2.2.1 (by omega) (by omega) hc;refine aA (fun h=>absurd e1 h) (fun _ => ?_);refine aj (by omega) (bA hp ?_);refine aA (fun h=>absurd e2 h) (fun _ => ?_);refine ⟨x,hx,?_⟩
   repeat' (first | contradiction | with_reducible refine aA (fun hq => ?_) (fun hq => ?_) | with_reducible refine aj (by first | omega | grind [cZ]) ?_ | with_reducible refine aD ?_ | with_reducible refine dA ?_ | with_reducible refine dQ ?_ | with_reducible refine dR ?_ | with_reducible refine dS ?_ | with_reducible refine ag ?_ | refine bA hp' ?_)
   ·exact absurd (hco hok.2.2) (by omega)
   ·refine Lg a1 (a2 k a1) (hco hok.2.2) (fun hn=>absurd ⟨hok.2.1,hok.2.2⟩ hn) (fun _ _=>⟨y,hy,?_⟩);rcases x with s | a | a <;> rcases y with t | t | t
    ·exact hxy.elim
    ·obtain ⟨g',b',rfl,rfl,hS'⟩:=hxy;refine ⟨by omega,g',b',rfl,rfl,(show k * 16 + 16=(k + 1) * 16 by omega) ▸ hS',fun j hj => ?_⟩
     rcases Nat.lt_or_ge j k with h1 | h1
     ·exact hJ j h1
     ·rw [show j=k by omega]; exact hok
    ·exact hxy.elim
    ·exact hxy.elim
    ·exact hxy.elim
    ·exact hxy.elim
    ·exact hxy.elim
    ·exact hxy.elim
    ·obtain ⟨rfl,rfl⟩:=hxy;exact ⟨⟨1,rfl,rfl⟩,.inr rfl⟩
  ·have h1:Tri (iter (iJ h b.keys b.types b.wrote b.incs b.last_ (k:Int)) ([],0)) (fun y=>p'=true→(idx h.Txns (k:Int)).Ops.length≤16→y = .inr 1) ∨ ¬ ((idx h.Txns (k:Int)).Ops.length≤16) ∨ ¬ p'=true:=by
    by_cases a4:(idx h.Txns (k:Int)).Ops.length≤16
    ·by_cases h3:p'=true
     ·refine .inl (Lg a1 (a2 k a1) a4 (fun _ _ _=>rfl) (fun q1 q2=>absurd ⟨hp1'.1 h3,q1,q2⟩ hok))
     ·exact .inr (.inr h3)
    ·exact .inr (.inl a4)
   have hend:Tri (aY h.Txns (k:Int)) (fun y=>Tri (bif !y then (out (some 1):Option (BS ⊕ Int)) else bif decide ((((idx h.Txns (k:Int)).Ops).length:Int) > 16) then out (some 1) else iter (iJ h b.keys b.types b.wrote b.incs b.last_ (k:Int)) ([],0)) (fun y=>y = .inr 1)):=by
    refine ⟨p',hp',?_⟩
    repeat' (first | contradiction | with_reducible refine aA (fun hq => ?_) (fun hq => ?_) | with_reducible refine aj (by first | omega | grind [cZ]) ?_ | with_reducible refine aD ?_ | with_reducible refine dA ?_ | with_reducible refine dQ ?_ | with_reducible refine dR ?_ | with_reducible refine dS ?_ | with_reducible refine ag ?_)
    ·rfl
    ·rfl
    ·rcases h1 with h1 | h1 | h1
     ·exact gX h1 (fun y hy=>hy (Decidable.of_not_not ‹¬¬p'=true›) (by omega))
     ·omega
     ·contradiction
   have hend2:∀ {Q:BS ⊕ Int→Prop},Q (.inr 1)→Tri ((aY h.Txns (k:Int)).bind fun y=>bif !y then (out (some 1):Option (BS ⊕ Int)) else bif decide ((((idx h.Txns (k:Int)).Ops).length:Int) > 16) then out (some 1) else iter (iJ h b.keys b.types b.wrote b.incs b.last_ (k:Int)) ([],0)) Q:=by
    intro Q hQ;refine dZ hend (fun y hy=>gX hy ?_);rintro _ rfl;exact hQ
   repeat' (first | contradiction | with_reducible refine aA (fun hq => ?_) (fun hq => ?_) | with_reducible refine aj (by first | omega | grind [cZ]) ?_ | with_reducible refine aD ?_ | with_reducible refine dA ?_ | with_reducible refine dQ ?_ | with_reducible refine dR ?_ | with_reducible refine dS ?_ | with_reducible refine ag ?_ | refine bA hp ?_)
   ·refine hend2 ?_;exact ⟨⟨1,rfl,rfl⟩,.inr rfl⟩
   ·refine hend2 ?_;exact ⟨⟨1,rfl,rfl⟩,.inr rfl⟩
   ·exact absurd ⟨a3.1 (by grind),a5.1 (by grind)⟩ hok
 ·repeat' (first | contradiction | with_reducible refine aA (fun hq => ?_) (fun hq => ?_) | with_reducible refine aj (by first | omega | grind [cZ]) ?_ | with_reducible refine aD ?_ | with_reducible refine dA ?_ | with_reducible refine dQ ?_ | with_reducible refine dR ?_ | with_reducible refine dS ?_ | with_reducible refine ag ?_)
  exact ⟨⟨0,rfl,rfl⟩,.inl rfl⟩
theorem Gd {h:History} (hs:qo h):Tri (aJ h) (fun v=>Tri (aF h) (fun v'=>v=v'∧(v=0∨v=1))):=by
 obtain ⟨a4,a3,a2⟩:=hs;obtain ⟨y,hy,hn⟩:=IJ (l:=h.Keys) (by omega);have hT:=fun hN a1=>PW (h:=h) ⟨a4,a3,a2⟩ hN a1;have hfail:¬ (wh h.Keys∧h.Txns.length≤32)→aF h=some 1:=by
  intro hno;refine eH.1 ?_;unfold aF jo
  simp only [cond_true,cond_false]
  repeat' (first | contradiction | with_reducible refine aA (fun hq => ?_) (fun hq => ?_) | with_reducible refine aj (by first | omega | grind [cZ]) ?_ | with_reducible refine aD ?_ | with_reducible refine dA ?_ | with_reducible refine dQ ?_ | with_reducible refine dR ?_ | with_reducible refine dS ?_ | with_reducible refine ag ?_ | refine bA hy ?_)
  ·rfl
  ·rfl
  ·exact absurd ⟨hn.1 (Decidable.of_not_not ‹¬¬y=true›),by omega⟩ hno
 have hgood:wh h.Keys→h.Txns.length≤32→Tri (iter (rQ h) (MG ⟨[],[],[],[],[]⟩ 0)) (fun x=>Tri (aF h) (fun v'=>x = .inr v'∧(v'=0∨v'=1))):=by
  intro hN a1;refine gX (hT hN a1) (fun x hx => ?_);unfold aF jo
  simp only [cond_true,cond_false]
  have:=hn.2 hN
  repeat' (first | contradiction | with_reducible refine aA (fun hq => ?_) (fun hq => ?_) | with_reducible refine aj (by first | omega | grind [cZ]) ?_ | with_reducible refine aD ?_ | with_reducible refine dA ?_ | with_reducible refine dQ ?_ | with_reducible refine dR ?_ | with_reducible refine dS ?_ | with_reducible refine ag ?_ | refine bA hy ?_)
  ·omega
  ·refine gX hx (fun v hv => ?_);obtain ⟨⟨v2,rfl,rfl⟩,h2⟩:=hv;exact ⟨rfl,h2⟩
 have hbad:¬ (wh h.Keys∧h.Txns.length≤32)→Tri (aF h) (fun v'=>(1:Int)=v'∧((1:Int)=0∨(1:Int)=1)):=fun hno=>⟨1,hfail hno,rfl,.inr rfl⟩;unfold aJ ve
 simp only [cond_true,cond_false]
 repeat' (first | contradiction | with_reducible refine aA (fun hq => ?_) (fun hq => ?_) | with_reducible refine aj (by first | omega | grind [cZ]) ?_ | with_reducible refine aD ?_ | with_reducible refine dA ?_ | with_reducible refine dQ ?_ | with_reducible refine dR ?_ | with_reducible refine dS ?_ | with_reducible refine ag ?_)
 ·exact hbad (fun hh=>by have:=hh.1.1; omega)
 ·exact hbad (fun hh=>by have:=hh.2; omega)
 ·refine tH h.Keys.length (Ev h.Keys) ?_;intro k hk hJ;unfold yA rP
  simp only [cond_true,cond_false]
  have hf:k < h.Keys.length→Tri (slices_Contains_string (jT h.Keys 0 (k:Int)) (idx h.Keys (k:Int))) (fun r=>r=true↔∃ j:Nat,j < k∧idx h.Keys (j:Int)=idx h.Keys (k:Int)):=by
   intro hk'
   rw [sJ (by omega)]
   refine gX (JR (by simp; omega)) (fun r hr => ?_);have ht:(h.Keys.take k).length=k:=by simp; omega
   have hx:∀ j:Nat,j < k→idx (h.Keys.take k) (j:Int)=idx h.Keys (j:Int):=fun j h=>Da h
   rw [ht] at hr
   grind
  have he:=Ko (k:=idx h.Keys (k:Int));have hw:w64 ((k:Int) + 1)=((k + 1:Nat):Int):=aZ (by omega)
  rw [hw]
  have hNk:Ev h.Keys k↔(1≤(idx h.Keys (k:Int)).size∧(idx h.Keys (k:Int)).size≤32∧∀ j:Nat,j < k→idx h.Keys (j:Int)≠idx h.Keys (k:Int)):=Iff.rfl;have hno:k < h.Keys.length → ¬ Ev h.Keys k → ¬ (wh h.Keys∧h.Txns.length≤32):=fun h1 h2 h3=>h2 (h3.1.2 k h1);refine aA (fun a5 => ?_) (fun a5 => ?_)
  ·refine aj (by omega) ?_
   repeat' (first | contradiction | with_reducible refine aA (fun hq => ?_) (fun hq => ?_) | with_reducible refine aj (by first | omega | grind [cZ]) ?_ | with_reducible refine aD ?_ | with_reducible refine dA ?_ | with_reducible refine dQ ?_ | with_reducible refine dR ?_ | with_reducible refine dS ?_ | with_reducible refine ag ?_ | refine dZ (hf (by omega)) (fun r hr => ?_))
   ·exact hbad (hno (by omega) (by grind))
   ·exact hbad (hno (by omega) (by grind))
   ·exact hbad (hno (by omega) (by grind))
   ·exact ⟨rfl,by omega,by grind⟩
  ·have hN:wh h.Keys:=⟨by omega,fun i hi=>hJ i (by omega)⟩
   unfold uo;refine dA ?_;obtain ⟨x,hx,v,hv,hq⟩:=hgood hN (by omega);obtain ⟨rfl,h2⟩:=hq;exact ⟨_,hx,v,hv,rfl,h2⟩
end Go.Proofs.YtfpeabnehpclnaaGreatT
namespace Go.Proofs.YtfpeabnehpclnaaGreatT
open Go Go.Proofs Go.Proofs.YtfpeabnehpclnaaGreatE
set_option linter.unusedVariables false
set_option linter.unusedSimpArgs false
def wm (l:List Int) (c:Call) (w:Int) (s:ByteArray):List Int:=if c.Kind=4∧c.Key=s∧(l.length=0∨idx l ((l.length - 1:Nat):Int)≠w) then l++[w] else l
def qp (E:List (Call×Int)) (s:ByteArray):List Int:=E.foldl (fun l e=>wm l e.1 e.2 s) []
theorem Gf {E:List (Call×Int)} {c:Call} {w:Int} {s:ByteArray}:qp (E++[(c,w)]) s=wm (qp E s) c w s:=by
 unfold qp; rw [List.foldl_append]; rfl
theorem yL {l:List Int} {c:Call} {w:Int} {s:ByteArray} (h:¬ (c.Kind=4∧c.Key=s)):wm l c w s=l:=by
 unfold wm; rw [if_neg (fun hh=>h ⟨hh.1,hh.2.1⟩)]
def RH (E:List (Call×Int)) (c:Call) (w:Int):Prop :=
 ((c.Kind=2∨c.Kind=3)→∀ e ∈ E,e.1.Key=c.Key→(e.1.Kind=2∨e.1.Kind=3)→e.1.Arg≠c.Arg)∧(c.Kind=4→(wm (qp E c.Key) c w c.Key).length≤8)
def Ph (E:List (Call×Int)) (c:Call) (w:Int):Prop:=(∀ e ∈ E,e.1.Key=c.Key→typ e.1.Kind=typ c.Kind)∧RH E c w
structure BookInv0 (E:List (Call×Int)) (b:aR):Prop where
 tl:b.types.length=b.keys.length
 wl:b.wrote.length=b.keys.length
 il:b.incs.length=b.keys.length
 ll:b.last_.length=b.keys.length
 nd:∀ i j:Nat,i < b.keys.length→j < b.keys.length→idx b.keys (i:Int)=idx b.keys (j:Int)→i=j
 ks:∀ e ∈ E,∃ j:Nat,j < b.keys.length∧idx b.keys (j:Int)=e.1.Key
 ty:∀ e ∈ E,∀ j:Nat,j < b.keys.length→idx b.keys (j:Int)=e.1.Key→idx b.types (j:Int)=typ e.1.Kind
 wr:∀ j:Nat,j < b.keys.length→∀ a,(∃ m:Nat,m < (idx b.wrote (j:Int)).length∧idx (idx b.wrote (j:Int)) (m:Int)=a)↔∃ e ∈ E,e.1.Key=idx b.keys (j:Int)∧(e.1.Kind=2∨e.1.Kind=3)∧e.1.Arg=a
 wn:∀ j:Nat,j < b.keys.length→(idx b.wrote (j:Int)).length≤E.length
 ic:∀ j:Nat,j < b.keys.length→idx b.incs (j:Int)=((qp E (idx b.keys (j:Int))).length:Int)
 i8:∀ j:Nat,j < b.keys.length→(qp E (idx b.keys (j:Int))).length≤8
 io:∀ s,(∀ j:Nat,j < b.keys.length→idx b.keys (j:Int)≠s)→qp E s=[]
 la:∀ j:Nat,j < b.keys.length→((qp E (idx b.keys (j:Int))).length=0→idx b.last_ (j:Int) = -1) ∧
  (0 < (qp E (idx b.keys (j:Int))).length→idx b.last_ (j:Int)=idx (qp E (idx b.keys (j:Int))) (((qp E (idx b.keys (j:Int))).length - 1:Nat):Int))
theorem BookInv0.start:BookInv0 [] ⟨[],[],[],[],[]⟩:=by
 refine ⟨rfl,rfl,rfl,rfl,?_,?_,?_,?_,?_,?_,?_,?_,?_⟩
 all_goals simp [qp]
theorem BookInv0.new {E:List (Call×Int)} {b:aR} (h:BookInv0 E b) {s:ByteArray} {t:Int} (hn:∀ j:Nat,j < b.keys.length→idx b.keys (j:Int)≠s) :
  BookInv0 E ⟨b.keys++[s],b.types++[t],b.wrote++[[]],b.incs++[0],b.last_++[-1]⟩:=by
 have hl:(b.keys++[s]).length=b.keys.length + 1:=by simp
 have k1:∀ j:Nat,j < b.keys.length→idx (b.keys++[s]) (j:Int)=idx b.keys (j:Int):=fun j hj=>nY hj;have k2:idx (b.keys++[s]) ((b.keys.length:Nat):Int)=s:=mZ rfl;have t1:∀ j:Nat,j < b.keys.length→idx (b.types++[t]) (j:Int)=idx b.types (j:Int):=fun j hj=>nY (by rw [h.tl]; exact hj);have w1:∀ j:Nat,j < b.keys.length→idx (b.wrote++[[]]) (j:Int)=idx b.wrote (j:Int):=fun j hj=>nY (by rw [h.wl]; exact hj);have w2:idx (b.wrote++[[]]) ((b.keys.length:Nat):Int)=[]:=mZ h.wl.symm;have i1:∀ j:Nat,j < b.keys.length→idx (b.incs++[0]) (j:Int)=idx b.incs (j:Int):=fun j hj=>nY (by rw [h.il]; exact hj);have i2:idx (b.incs++[0]) ((b.keys.length:Nat):Int)=0:=mZ h.il.symm;have l1:∀ j:Nat,j < b.keys.length→idx (b.last_++[-1]) (j:Int)=idx b.last_ (j:Int):=fun j hj=>nY (by rw [h.ll]; exact hj);have l2:idx (b.last_++[-1]) ((b.keys.length:Nat):Int) = -1:=mZ h.ll.symm;have ho:=h.io s hn;have hne:∀ e ∈ E,e.1.Key≠s:=fun e he hs=>by
  obtain ⟨j,hj,hk⟩:=h.ks e he;exact hn j hj (hk.trans hs)
 have cut:∀ j:Nat,j < b.keys.length + 1→j < b.keys.length∨j=b.keys.length:=by omega
 refine ⟨by simp [h.tl],by simp [h.wl],by simp [h.il],by simp [h.ll],?_,?_,?_,?_,?_,?_,?_,?_,?_⟩
 ·intro i j hi hj he
  dsimp only at hi hj he
  rw [hl] at hi hj
  have:=h.nd i j;rcases cut i hi with hi' | hi' <;> rcases cut j hj with hj' | hj' <;> grind
 ·intro e he;obtain ⟨j,hj,hk⟩:=h.ks e he;exact ⟨j,by simp; omega,(k1 j hj).trans hk⟩
 ·intro e he j hj hk
  dsimp only at hj hk ⊢
  rw [hl] at hj
  rcases cut j hj with hj' | hj'
  ·rw [k1 j hj'] at hk; rw [t1 j hj']; exact h.ty e he j hj' hk
  ·subst hj'; rw [k2] at hk; exact absurd hk.symm (hne e he)
 ·intro j hj a
  dsimp only at hj ⊢
  rw [hl] at hj
  rcases cut j hj with hj' | hj'
  ·rw [k1 j hj',w1 j hj']; exact h.wr j hj' a
  ·subst hj'
   rw [k2,w2]
   constructor
   ·rintro ⟨m,hm,_⟩; simp at hm
   ·rintro ⟨e,he,hk,_⟩; exact absurd hk (hne e he)
 ·intro j hj
  dsimp only at hj ⊢
  rw [hl] at hj
  rcases cut j hj with hj' | hj'
  ·rw [w1 j hj']; exact h.wn j hj'
  ·subst hj'; rw [w2]; simp
 ·intro j hj
  dsimp only at hj ⊢
  rw [hl] at hj
  rcases cut j hj with hj' | hj'
  ·rw [k1 j hj',i1 j hj']; exact h.ic j hj'
  ·subst hj'; rw [k2,i2,ho]; rfl
 ·intro j hj
  dsimp only at hj ⊢
  rw [hl] at hj
  rcases cut j hj with hj' | hj'
  ·rw [k1 j hj']; exact h.i8 j hj'
  ·subst hj'; rw [k2,ho]; simp
 ·intro x hx
  dsimp only at hx ⊢
  rw [hl] at hx
  exact h.io x (fun j hj=>by rw [← k1 j hj]; exact hx j (by omega))
 ·intro j hj
  dsimp only at hj ⊢
  rw [hl] at hj
  rcases cut j hj with hj' | hj'
  ·rw [k1 j hj',l1 j hj']; exact h.la j hj'
  ·subst hj'; rw [k2,l2,ho]; simp
theorem kz {E:List (Call×Int)} {c:Call} {w:Int} {e:Call×Int}:e ∈ E++[(c,w)]↔e ∈ E∨e=(c,w):=by simp
theorem BookInv0.same {E:List (Call×Int)} {b:aR} {c:Call} {w:Int} {k:Nat} (h:BookInv0 E b) (hk:k < b.keys.length) (hs:idx b.keys (k:Int)=c.Key) (ht:idx b.types (k:Int)=typ c.Kind)
  (h2:c.Kind≠2) (h3:c.Kind≠3) (hw:wm (qp E c.Key) c w c.Key=qp E c.Key):BookInv0 (E++[(c,w)]) b:=by
 have hws:∀ s,qp (E++[(c,w)]) s=qp E s:=fun s=>by
  rw [Gf]
  by_cases e:c.Kind=4∧c.Key=s
  ·rw [← e.2]; exact hw
  ·exact yL e
 refine ⟨h.tl,h.wl,h.il,h.ll,h.nd,?_,?_,?_,?_,?_,?_,?_,?_⟩
 ·intro e he;rcases kz.1 he with he | rfl
  ·exact h.ks e he
  ·exact ⟨k,hk,hs⟩
 ·intro e he j hj hkj;rcases kz.1 he with he | rfl
  ·exact h.ty e he j hj hkj
  ·have:=h.nd j k hj hk (hkj.trans hs.symm);subst this;exact ht
 ·intro j hj a
  rw [h.wr j hj a]
  constructor
  ·rintro ⟨e,he,r⟩; exact ⟨e,kz.2 (.inl he),r⟩
  ·rintro ⟨e,he,r⟩;rcases kz.1 he with he | rfl
   ·exact ⟨e,he,r⟩
   ·rcases r.2.1 with r | r <;> contradiction
 ·intro j hj;have:=h.wn j hj
  simp; omega
 ·intro j hj; rw [hws]; exact h.ic j hj
 ·intro j hj; rw [hws]; exact h.i8 j hj
 ·intro s hs'; rw [hws]; exact h.io s hs'
 ·intro j hj; rw [hws]; exact h.la j hj
theorem BookInv0.write {E:List (Call×Int)} {b:aR} {c:Call} {w:Int} {k:Nat} (h:BookInv0 E b) (hk:k < b.keys.length) (hs:idx b.keys (k:Int)=c.Key) (ht:idx b.types (k:Int)=typ c.Kind)
  (a1:c.Kind=2∨c.Kind=3):BookInv0 (E++[(c,w)]) ⟨b.keys,b.types,b.wrote.set k (idx b.wrote (k:Int)++[c.Arg]),b.incs,b.last_⟩:=by
 have hws:∀ s,qp (E++[(c,w)]) s=qp E s:=fun s=>by
  rw [Gf]
  exact yL (fun e=>by omega)
 have w1:∀ j:Nat,idx (b.wrote.set k (idx b.wrote (k:Int)++[c.Arg])) (j:Int)=if j=k then idx b.wrote (k:Int)++[c.Arg] else idx b.wrote (j:Int):=fun j=>xH (by rw [h.wl]; exact hk);refine ⟨h.tl,by simp [h.wl],h.il,h.ll,h.nd,?_,?_,?_,?_,?_,?_,?_,?_⟩
 ·intro e he;rcases kz.1 he with he | rfl
  ·exact h.ks e he
  ·exact ⟨k,hk,hs⟩
 ·intro e he j hj hkj;rcases kz.1 he with he | rfl
  ·exact h.ty e he j hj hkj
  ·have:=h.nd j k hj hk (hkj.trans hs.symm);subst this;exact ht
 ·intro j hj a
  dsimp only at hj ⊢
  rw [w1 j]
  have hold:=h.wr j hj a
  by_cases e:j=k
  ·subst e
   rw [if_pos rfl]
   constructor
   ·rintro ⟨m,hm,he⟩;rcases Nat.lt_or_ge m (idx b.wrote (j:Int)).length with h1 | h1
    ·rw [nY h1] at he
     obtain ⟨e,he',r⟩:=hold.1 ⟨m,h1,he⟩;exact ⟨e,kz.2 (.inl he'),r⟩
    ·simp at hm
     rw [mZ (by omega)] at he
     exact ⟨(c,w),kz.2 (.inr rfl),hs.symm,a1,he⟩
   ·rintro ⟨e,he,r⟩;rcases kz.1 he with he | rfl
    ·obtain ⟨m,hm,hh⟩:=hold.2 ⟨e,he,r⟩;exact ⟨m,by simp; omega,(nY hm).trans hh⟩
    ·exact ⟨_,by simp,(mZ rfl).trans r.2.2⟩
  ·rw [if_neg e,hold]
   constructor
   ·rintro ⟨e,he,r⟩; exact ⟨e,kz.2 (.inl he),r⟩
   ·rintro ⟨e',he,r⟩;rcases kz.1 he with he | rfl
    ·exact ⟨e',he,r⟩
    ·exact absurd (h.nd j k hj hk (r.1.symm.trans hs.symm)) e
 ·intro j hj
  dsimp only at hj ⊢
  rw [w1 j]
  have:=h.wn j hj
  split
  ·rename_i e; subst e; simp; omega
  ·simp; omega
 ·intro j hj; rw [hws]; exact h.ic j hj
 ·intro j hj; rw [hws]; exact h.i8 j hj
 ·intro s hs'; rw [hws]; exact h.io s hs'
 ·intro j hj; rw [hws]; exact h.la j hj
theorem BookInv0.inc {E:List (Call×Int)} {b:aR} {c:Call} {w:Int} {k:Nat} (h:BookInv0 E b) (hk:k < b.keys.length) (hs:idx b.keys (k:Int)=c.Key) (ht:idx b.types (k:Int)=typ c.Kind)
  (h4:c.Kind=4) (hw:wm (qp E c.Key) c w c.Key=qp E c.Key++[w]) (h8:(qp E c.Key).length + 1≤8) :
  BookInv0 (E++[(c,w)]) ⟨b.keys,b.types,b.wrote,b.incs.set k (idx b.incs (k:Int) + 1),b.last_.set k w⟩:=by
 have hws:∀ s,qp (E++[(c,w)]) s=if c.Key=s then qp E s++[w] else qp E s:=fun s=>by
  rw [Gf]
  by_cases e:c.Key=s
  ·rw [if_pos e,← e]; exact hw
  ·rw [if_neg e]; exact yL (fun hh=>e hh.2)
 have i1:∀ j:Nat,idx (b.incs.set k (idx b.incs (k:Int) + 1)) (j:Int)=if j=k then idx b.incs (k:Int) + 1 else idx b.incs (j:Int):=fun j=>xH (by rw [h.il]; exact hk);have l1:∀ j:Nat,idx (b.last_.set k w) (j:Int)=if j=k then w else idx b.last_ (j:Int):=fun j=>xH (by rw [h.ll]; exact hk);have hne:∀ j:Nat,j < b.keys.length→(c.Key=idx b.keys (j:Int)↔j=k):=fun j hj=>⟨fun e=>h.nd j k hj hk (e.symm.trans hs.symm),fun e=>by rw [e,hs]⟩
 refine ⟨h.tl,h.wl,by simp [h.il],by simp [h.ll],h.nd,?_,?_,?_,?_,?_,?_,?_,?_⟩
 ·intro e he;rcases kz.1 he with he | rfl
  ·exact h.ks e he
  ·exact ⟨k,hk,hs⟩
 ·intro e he j hj hkj;rcases kz.1 he with he | rfl
  ·exact h.ty e he j hj hkj
  ·have:=h.nd j k hj hk (hkj.trans hs.symm);subst this;exact ht
 ·intro j hj a
  dsimp only at hj ⊢
  rw [h.wr j hj a]
  constructor
  ·rintro ⟨e,he,r⟩; exact ⟨e,kz.2 (.inl he),r⟩
  ·rintro ⟨e,he,r⟩;rcases kz.1 he with he | rfl
   ·exact ⟨e,he,r⟩
   ·have:=r.2.1; dsimp only at this; omega
 ·intro j hj;have:=h.wn j hj
  simp; omega
 ·intro j hj
  dsimp only at hj ⊢
  have:=h.ic j hj
  rw [hws,i1 j]
  by_cases e:j=k
  ·rw [if_pos e,if_pos ((hne j hj).2 e)]; subst e; simp; omega
  ·rw [if_neg e,if_neg (fun hh=>e ((hne j hj).1 hh))]; exact this
 ·intro j hj
  dsimp only at hj ⊢
  rw [hws]
  by_cases e:j=k
  ·rw [if_pos ((hne j hj).2 e)]; subst e; rw [hs]; simp; omega
  ·rw [if_neg (fun hh=>e ((hne j hj).1 hh))]; exact h.i8 j hj
 ·intro s hs'
  dsimp only at hs'
  rw [hws,if_neg (fun e=>hs' k hk (hs.trans e))]
  exact h.io s hs'
 ·intro j hj
  dsimp only at hj ⊢
  rw [hws,l1 j]
  by_cases e:j=k
  ·rw [if_pos e,if_pos ((hne j hj).2 e)]
   refine ⟨fun h0=>by simp at h0,fun _ => ?_⟩
   rw [mZ (by simp)]
  ·rw [if_neg e,if_neg (fun hh=>e ((hne j hj).1 hh))]; exact h.la j hj
theorem Pi {E:List (Call×Int)} {b:aR} {c:Call} {w:Int} {k:Nat} (h:BookInv0 E b) (hk:k < b.keys.length) (hs:idx b.keys (k:Int)=c.Key) (ht:idx b.types (k:Int)=typ c.Kind)
  (h1:1≤c.Kind) (h8:c.Kind≤8) (hw:0≤w) (hE:E.length≤4096) :
  Tri (fD c w b.keys b.types b.wrote b.incs b.last_ (k:Int)) (fun r=>(r.1=0↔RH E c w)∧(r.1=0→BookInv0 (E++[(c,w)]) r.2∧r.2.keys=b.keys∧r.2.types=b.types)):=by
 have hin:=h.ic k hk;have a1:=h.i8 k hk;have hla:=h.la k hk;have hwr:=h.wr k hk c.Arg;have hwn:=h.wn k hk
 rw [hs] at hin a1 hla hwr
 refine gX (Lf (who:=w) hk h.tl h.wl h.il h.ll (by omega) (by omega) h1 h8) (fun r hr => ?_);have stay:∀ {l:List Int},wm (qp E c.Key) c w c.Key=l→l=if c.Kind=4∧((qp E c.Key).length=0∨idx (qp E c.Key) (((qp E c.Key).length - 1:Nat):Int)≠w) then qp E c.Key++[w] else qp E c.Key:=by
  rintro l rfl;unfold wm
  simp
 have st:=stay rfl;rcases hr with ⟨a,rfl⟩ | ⟨_,b1,b2,rfl⟩ | ⟨_,b1,b2,rfl⟩ | ⟨_,b1,b2,b3,b4⟩ | ⟨_,b1,b2,b3,rfl⟩ | ⟨_,b1,b2,rfl⟩ | ⟨_,b1,b2,b3,rfl⟩
 ·exact absurd ht a
 ·refine ⟨⟨fun h=>by simp at h,fun hh => ?_⟩,fun h=>by simp at h⟩
  obtain ⟨e,he,r1,r2,r3⟩:=hwr.1 b2;exact absurd r3 (hh.1 b1 e he r1 r2)
 ·refine ⟨⟨fun _=>⟨fun _ e he r1 r2 r3=>b2 (hwr.2 ⟨e,he,r1,r2,r3⟩),fun h4=>by omega⟩,fun _=>rfl⟩,fun _=>⟨h.write hk hs ht b1,rfl,rfl⟩⟩
 ·have hne:(qp E c.Key).length=0∨idx (qp E c.Key) (((qp E c.Key).length - 1:Nat):Int)≠w:=by grind
  rw [if_pos ⟨b1,hne⟩] at st
  refine ⟨⟨fun h0=>by omega,fun hh => ?_⟩,fun h0=>by omega⟩
  have:=hh.2 b1
  rw [st] at this
  simp at this
  omega
 ·have hne:(qp E c.Key).length=0∨idx (qp E c.Key) (((qp E c.Key).length - 1:Nat):Int)≠w:=by grind
  rw [if_pos ⟨b1,hne⟩] at st
  refine ⟨⟨fun _=>⟨fun h=>by omega,fun _=>by rw [st]; simp; omega⟩,fun _=>rfl⟩,fun _=>⟨h.inc hk hs ht b1 st (by omega),rfl,rfl⟩⟩
 ·have hne:¬ ((qp E c.Key).length=0∨idx (qp E c.Key) (((qp E c.Key).length - 1:Nat):Int)≠w):=by grind
  rw [if_neg (fun hh=>hne hh.2)] at st
  refine ⟨⟨fun _=>⟨fun h=>by omega,fun _=>by rw [st]; exact a1⟩,fun _=>rfl⟩,fun _=>⟨h.same hk hs ht (by omega) (by omega) st,rfl,rfl⟩⟩
 ·rw [if_neg (fun hh=>b3 hh.1)] at st
  refine ⟨⟨fun _=>⟨fun h=>by omega,fun h=>by omega⟩,fun _=>rfl⟩,fun _=>⟨h.same hk hs ht b1 b2 st,rfl,rfl⟩⟩
structure wo (E:List (Call×Int)) (b:aR):Prop extends BookInv0 E b where
 len:b.keys.length≤32
 kex:∀ j:Nat,j < b.keys.length→∃ e ∈ E,e.1.Key=idx b.keys (j:Int)
theorem wo.start:wo [] ⟨[],[],[],[],[]⟩:=⟨BookInv0.start,by simp,fun j hj=>by simp at hj⟩
theorem PX {E:List (Call×Int)} {b:aR} {c:Call} {w:Int} (h:wo E b) (hroom:b.keys.length=32→∃ j:Nat,j < b.keys.length∧idx b.keys (j:Int)=c.Key)
  (h1:1≤c.Kind) (h8:c.Kind≤8) (hw:0≤w) (hE:E.length≤4096) :
  Tri (az b c w) (fun r=>(r.1=0↔Ph E c w)∧(r.1=0→wo (E++[(c,w)]) r.2)):=by
 have hl:=h.len;have t1:=h.tl;have t2:=h.wl;have t3:=h.il;have t4:=h.ll;obtain ⟨r0,a5,hf⟩:=Gc (l:=b.keys) (s:=c.Key) (by omega);unfold az
 rw [a5]
 refine dA ?_;rcases hf with ⟨rfl,hno⟩ | ⟨k,rfl,a1,a2,_⟩
 ·refine aA (fun _ => ?_) (fun hh=>by omega);refine aA (fun a6 => ?_) (fun a6 => ?_)
  ·obtain ⟨j,hj,he⟩:=hroom (by omega);exact absurd he (hno j hj)
  ·have hn:=h.toBookInv0.new (s:=c.Key) (t:=typ c.Kind) hno;have hat:=Pi (w:=w) hn (k:=b.keys.length) (by simp) (mZ rfl) (mZ t1.symm) h1 h8 hw hE;have hne:∀ e ∈ E,e.1.Key≠c.Key:=fun e he hs=>by
    obtain ⟨j,hj,hk⟩:=h.ks e he;exact hno j hj (hk.trans hs)
   unfold jZ jY
   simp only [Dn h1 h8]
   refine aj (by omega) (dA (aj (by omega) (aj (by omega) (aj (by omega) (aj (by omega) ?_)))));refine gX hat (fun r hr => ?_);refine ⟨hr.1.trans ⟨fun hh=>⟨fun e he hs=>absurd hs (hne e he),hh⟩,fun hh=>hh.2⟩,fun h0 => ?_⟩;obtain ⟨q1,q2,q3⟩:=hr.2 h0;refine ⟨q1,by rw [q2]; simp; omega,fun j hj => ?_⟩
   rw [q2] at hj ⊢
   have hj:j < b.keys.length + 1:=by simpa using hj
   rcases (by omega:j < b.keys.length∨j=b.keys.length) with hj' | hj'
   ·obtain ⟨e,he,hk⟩:=h.kex j hj';exact ⟨e,kz.2 (.inl he),by rw [hk]; exact (nY hj').symm⟩
   ·subst hj';exact ⟨(c,w),kz.2 (.inr rfl),(mZ rfl).symm⟩
 ·refine aA (fun hh=>by omega) (fun _ => ?_);obtain ⟨e0,a4,a3⟩:=h.kex k a1;have hty:=h.ty e0 a4 k a1 a3.symm
  by_cases ht:idx b.types (k:Int)=typ c.Kind
  ·have hat:=Pi (w:=w) h.toBookInv0 a1 a2 ht h1 h8 hw hE;refine gX hat (fun r hr => ?_);refine ⟨hr.1.trans ⟨fun hh=>⟨fun e he hs => ?_,hh⟩,fun hh=>hh.2⟩,fun h0 => ?_⟩
   ·exact (h.ty e he k a1 (a2.trans hs.symm)).symm.trans ht
   ·obtain ⟨q1,q2,q3⟩:=hr.2 h0;refine ⟨q1,by rw [q2]; exact hl,fun j hj => ?_⟩
    rw [q2] at hj ⊢
    obtain ⟨e,he,hk⟩:=h.kex j hj;exact ⟨e,kz.2 (.inl he),hk⟩
  ·have hin:=h.ic k a1;have a7:=h.i8 k a1;have hwn:=h.wn k a1;refine gX (Lf (who:=w) a1 t1 t2 t3 t4 (by omega) (by omega) h1 h8) (fun r hr => ?_);have hno:¬ Ph E c w:=fun hh=>ht (hty.trans (hh.1 e0 a4 (a3.trans a2)));rcases hr with ⟨a,rfl⟩ | ⟨a,_⟩ | ⟨a,_⟩ | ⟨a,_⟩ | ⟨a,_⟩ | ⟨a,_⟩ | ⟨a,_⟩
   ·exact ⟨⟨fun h=>by simp at h,fun hh=>absurd hh hno⟩,fun h=>by simp at h⟩
   all_goals exact absurd a ht
def Ef (h:History) (i:Nat):List (Call×Int):=(eF h (idx h.Txns (i:Int))).map (fun c=>(c,(i:Int)))
def xQ (h:History) (k:Nat):List (Call×Int):=(List.range k).flatMap (Ef h)
theorem yM {h:History} {k:Nat}:xQ h (k + 1)=xQ h k++Ef h k:=by
 unfold xQ; rw [List.range_succ,List.flatMap_append]; simp
def uM (E L:List (Call×Int)):Prop:=∀ j:Nat,j < L.length→Ph (E++L.take j) (idx L (j:Int)).1 (idx L (j:Int)).2
theorem uM.append {E L M:List (Call×Int)}:uM E (L++M)↔uM E L∧uM (E++L) M:=by
 constructor
 ·intro h;refine ⟨fun j hj => ?_,fun j hj => ?_⟩
  ·have:=h j (by simp; omega)
   rwa [nY hj,List.take_append_of_le_length (by omega)] at this
  ·have:=h (L.length + j) (by simp; omega)
   rw [List.take_append,List.take_of_length_le (by omega),show L.length + j - L.length=j by omega,← List.append_assoc] at this
   rwa [show idx (L++M) ((L.length + j:Nat):Int)=idx M (j:Int) from by
    rw [dJ rfl (by simp; omega),dJ rfl hj,List.getElem_append_right (by omega)]; congr 1; omega] at this
 ·rintro ⟨h1,h2⟩ j hj;rcases Nat.lt_or_ge j L.length with h3 | h3
  ·rw [nY h3,List.take_append_of_le_length (by omega)]; exact h1 j h3
  ·obtain ⟨i,rfl⟩:∃ i,j=L.length + i:=⟨j - L.length,by omega⟩
   have hi:i < M.length:=by simp at hj; omega
   have:=h2 i hi
   rw [List.take_append,List.take_of_length_le (by omega),show L.length + i - L.length=i by omega,← List.append_assoc]
   rwa [show idx (L++M) ((L.length + i:Nat):Int)=idx M (i:Int) from by
    rw [dJ rfl (by simp; omega),dJ rfl hi,List.getElem_append_right (by omega)]; congr 1; omega]
theorem room {K l:List ByteArray} {s:ByteArray} (hK:K.length≤32) (hl:l.length=32) (nd:∀ i j:Nat,i < l.length→j < l.length→idx l (i:Int)=idx l (j:Int)→i=j)
  (hs:s ∈ K) (hsub:∀ x ∈ l,x ∈ K):∃ j:Nat,j < l.length∧idx l (j:Int)=s:=by
 have hnd:l.Nodup:=by
  rw [List.nodup_iff_pairwise_ne,List.pairwise_iff_getElem]
  intro i j hi hj hij he;have:=nd i j hi hj (by rw [dJ rfl hi,dJ rfl hj]; exact he)
  omega
 by_cases h:s ∈ l
 ·obtain ⟨j,hj,he⟩:=List.getElem_of_mem h;exact ⟨j,hj,(dJ rfl hj).trans he⟩
 ·have h1:(s::l).Nodup:=List.nodup_cons.2 ⟨h,hnd⟩;have h2:=h1.length_le_of_subset (l₂:=K) (fun x hx=>by
   rcases List.mem_cons.1 hx with rfl | hx
   ·exact hs
   ·exact hsub x hx)
  simp at h2
  omega
def InK (K:List ByteArray) (E:List (Call×Int)):Prop:=∀ e ∈ E,e.1.Key ∈ K
theorem wo.sub {K:List ByteArray} {E:List (Call×Int)} {b:aR} (h:wo E b) (hE:InK K E):∀ x ∈ b.keys,x ∈ K:=by
 intro x hx;obtain ⟨j,hj,rfl⟩:=List.getElem_of_mem hx;obtain ⟨e,he,hk⟩:=h.kex j hj;have:=hE e he
 rw [hk,dJ rfl hj] at this
 exact this
theorem NU {K:List ByteArray} {E:List (Call×Int)} {b:aR} {i:Nat} {l:List Call} (h:wo E b) (hK:K.length≤32) (hEK:InK K E) (hlK:∀ c ∈ l,c.Key ∈ K) (hl:l.length≤16) (hi:i < 64) (hn:E.length≤1024)
  (hc:zn l (fun c=>1≤c.Kind∧c.Kind≤8)) :
  Tri (iter (iI (i:Int) l) (Fb b 0)) (fun x=>(uM E (l.map (fun c=>(c,(i:Int))))→∃ b',x = .inr (.inl (Fb b' ((i + 1:Nat):Int)))∧wo (E++l.map (fun c=>(c,(i:Int)))) b') ∧
   (¬ uM E (l.map (fun c=>(c,(i:Int))))→x = .inr (.inr 1))):=by
 generalize hm:l.map (fun c=>(c,(i:Int)))=m;have hml:m.length=l.length:=by rw [← hm]; simp
 have hmi:∀ k:Nat,k < l.length→idx m (k:Int)=(idx l (k:Int),(i:Int)):=fun k hk=>by rw [← hm,BC hk]
 refine bX (k0:=0) l.length (fun k s=>∃ b',s=Fb b' (k:Int)∧wo (E++m.take k) b'∧∀ j:Nat,j < k→Ph (E++m.take j) (idx m (j:Int)).1 (idx m (j:Int)).2) (Nat.zero_le _) ⟨b,rfl,by simpa using h,fun j hj=>absurd hj (Nat.not_lt_zero _)⟩ ?_
 rintro k s hk ⟨b',rfl,hb,hJ⟩;unfold iI Fb
 dsimp only
 refine aA (fun a2 => ?_) (fun a2 => ?_)
 ·have a1:k < l.length:=by omega
  have hin:InK K (E++m.take k):=fun e he=>by
   rcases List.mem_append.1 he with he | he
   ·exact hEK e he
   ·have:=List.mem_of_mem_take he
    rw [← hm] at this
    obtain ⟨c,hc,rfl⟩:=List.mem_map.1 this;exact hlK c hc
  have hcK:(idx l (k:Int)).Key ∈ K:=hlK _ (by rw [dJ rfl a1]; exact List.getElem_mem a1);have hw:w64 ((k:Int) + 1)=((k + 1:Nat):Int):=aZ (by omega);obtain ⟨r,hr,q1,q2⟩:=PX (c:=idx l (k:Int)) (w:=(i:Int)) hb (fun a3=>room hK a3 hb.nd hcK (hb.sub hin)) (hc k a1).1 (hc k a1).2 (by omega) (by simp; omega);refine aj (by omega) (bA hr ?_);refine aA (fun h0 => ?_) (fun h0 => ?_)
  ·refine aD (aD (aD (ag ⟨fun hall => ?_,fun _=>rfl⟩)));have:=hall k (by omega)
   rw [hmi k a1] at this
   exact absurd (q1.2 this) h0
  ·refine ag ⟨a1,r.2,?_,?_,?_⟩
   ·rw [hw]
   ·rw [tJ (by omega),hmi k a1,← List.append_assoc]
    exact q2 (by omega)
   ·intro j hj;rcases Nat.lt_or_ge j k with h1 | h1
    ·exact hJ j h1
    ·rw [show j=k by omega,hmi k a1]; exact q1.1 (by omega)
 ·have hw:w64 ((i:Int) + 1)=((i + 1:Nat):Int):=aZ (by omega)
  rw [hw]
  have hfull:m.take k=m:=List.take_of_length_le (by omega)
  rw [hfull] at hb
  refine aD (aD (ag ⟨fun _=>⟨b',rfl,hb⟩,fun hno=>absurd (fun j hj=>hJ j (by omega)) hno⟩))
structure fo (h:History):Prop where
 names:wh h.Keys
 len:h.Txns.length≤32
 txn:∀ i:Nat,i < h.Txns.length→Fe h i
 ents:uM [] (xQ h h.Txns.length)
theorem keys_in {h:History} {i:Nat} (hi:Bv h (idx h.Txns (i:Int))):∀ c ∈ eF h (idx h.Txns (i:Int)),c.Key ∈ h.Keys:=by
 intro c hc;obtain ⟨o,ho,rfl⟩:=List.mem_map.1 hc;have:=(CZ.1 hi) o ho
 show idx h.Keys o.Key ∈ h.Keys
 rw [dJ (n:=o.Key.toNat) (by omega) (by omega)]
 exact List.getElem_mem _
theorem PY {h:History} {i:Nat} (hi:Fe h i):(Ef h i).length≤16:=by
 have:=hi.2.2.2.2.1
 simpa [Ef,DZ,eF] using this
theorem Hr {h:History} (hs:qo h):Tri (aF h) (fun v=>(v=0↔fo h)∧(v=0∨v=1)):=by
 obtain ⟨a6,a5,a2⟩:=hs;obtain ⟨y,hy,hn⟩:=IJ (l:=h.Keys) (by omega);unfold aF jo
 simp only [cond_true,cond_false]
 repeat' (first | contradiction | with_reducible refine aA (fun hq => ?_) (fun hq => ?_) | with_reducible refine aj (by first | omega | grind [cZ]) ?_ | with_reducible refine aD ?_ | with_reducible refine dA ?_ | with_reducible refine dQ ?_ | with_reducible refine dR ?_ | with_reducible refine dS ?_ | with_reducible refine ag ?_ | refine bA hy ?_)
 ·exact ⟨⟨fun h=>absurd h (by decide),fun hS=>absurd (hn.2 hS.names) ‹¬y=true›⟩,.inr rfl⟩
 ·exact ⟨⟨fun h=>absurd h (by decide),fun hS=>absurd hS.len (by omega)⟩,.inr rfl⟩
 ·have hN:wh h.Keys:=hn.1 (Decidable.of_not_not ‹¬¬y=true›);have a3:h.Txns.length≤32:=by omega
  refine bX (k0:=0) h.Txns.length (fun k s=>∃ b,s=Fb b (k:Int)∧wo (xQ h k) b∧InK h.Keys (xQ h k)∧(xQ h k).length≤16 * k∧uM [] (xQ h k)∧∀ j:Nat,j < k→Fe h j) (Nat.zero_le _)
   ⟨⟨[],[],[],[],[]⟩,rfl,wo.start,fun e he=>by simp [xQ] at he,by simp [xQ],fun j hj=>by simp [xQ] at hj,fun j hj=>absurd hj (Nat.not_lt_zero _)⟩ ?_
  rintro k s hk ⟨b,rfl,hb,hin,hlen,hents,hJ⟩;unfold kV kU Fb
  simp only [cond_true,cond_false]
  have hbad:(k < h.Txns.length → ¬ Fe h k)→k < h.Txns.length → ¬ fo h:=fun h1 h2 hS=>h1 h2 (hS.txn k h2);refine aA (fun a4 => ?_) (fun a4 => ?_)
  ·have a1:k < h.Txns.length:=by omega
   obtain ⟨p',hp',hp1'⟩:=BP (l:=h.Txns) a1 (by omega);have hco:Eu (DZ h (idx h.Txns (k:Int)))→(idx h.Txns (k:Int)).Ops.length≤16:=fun he=>by
    have:=he.2.2.1
    simpa [DZ,eF] using this
   repeat' (first | contradiction | with_reducible refine aA (fun hq => ?_) (fun hq => ?_) | with_reducible refine aj (by first | omega | grind [cZ]) ?_ | with_reducible refine aD ?_ | with_reducible refine dA ?_ | with_reducible refine dQ ?_ | with_reducible refine dR ?_ | with_reducible refine dS ?_ | with_reducible refine ag ?_ | refine bA hp' ?_)
   ·exact ⟨⟨fun h=>absurd h (by decide),fun hS=>absurd (hp1'.2 (hS.txn k a1).1) ‹¬p'=true›⟩,.inr rfl⟩
   ·exact ⟨⟨fun h=>absurd h (by decide),fun hS=>absurd (hco (hS.txn k a1).2.2) (by omega)⟩,.inr rfl⟩
   ·refine Lg (b:=b) a1 (a2 k a1) (by omega) (fun hno => ?_) (fun hKo hEv => ?_)
    ·exact ⟨⟨fun h=>absurd h (by decide),fun hS=>absurd ⟨(hS.txn k a1).2.1,(hS.txn k a1).2.2⟩ hno⟩,.inr rfl⟩
    ·have hok:Fe h k:=⟨hp1'.1 (Decidable.of_not_not ‹¬¬p'=true›),hKo,hEv⟩;have hc:zn (eF h (idx h.Txns (k:Int))) (fun c=>1≤c.Kind∧c.Kind≤8):=fun j hj=>⟨(hEv.2.2.2 j hj).1,(hEv.2.2.2 j hj).2.1⟩;refine gX (NU (i:=k) hb hN.1 hin (keys_in hKo) hEv.2.2.1 (by omega) (by omega) hc) (fun x hx => ?_)
     by_cases hall:uM (xQ h k) (Ef h k)
     ·obtain ⟨b',rfl,hb'⟩:=hx.1 hall;refine ⟨a1,b',rfl,by rw [yM]; exact hb',?_,?_,?_,?_⟩
      ·rw [yM]
       intro e he;rcases List.mem_append.1 he with he | he
       ·exact hin e he
       ·obtain ⟨c,hc,rfl⟩:=List.mem_map.1 he;exact keys_in hKo c hc
      ·have:=PY hok
       rw [yM,List.length_append]; omega
      ·rw [yM]
       exact uM.append.2 ⟨hents,hall⟩
      ·intro j hj;rcases Nat.lt_or_ge j k with h1 | h1
       ·exact hJ j h1
       ·rw [show j=k by omega]; exact hok
     ·rw [hx.2 hall]
      refine ⟨⟨fun h=>absurd h (by decide),fun hS=>absurd ?_ hall⟩,.inr rfl⟩;have hsp:∀ n:Nat,k + 1≤n→uM [] (xQ h n)→uM (xQ h k) (Ef h k):=by
       intro n
       induction n with
       | zero=>intro h; omega
       | succ n ih =>
        intro hn hE
        rw [yM,uM.append] at hE
        rcases Nat.lt_or_ge k n with h1 | h1
        ·exact ih (by omega) hE.1
        ·rw [show n=k by omega] at hE
         exact hE.2
      exact hsp _ a1 hS.ents
  ·have a1:k=h.Txns.length:=by omega
   repeat' (first | contradiction | with_reducible refine aA (fun hq => ?_) (fun hq => ?_) | with_reducible refine aj (by first | omega | grind [cZ]) ?_ | with_reducible refine aD ?_ | with_reducible refine dA ?_ | with_reducible refine dQ ?_ | with_reducible refine dR ?_ | with_reducible refine dS ?_ | with_reducible refine ag ?_)
   rw [a1] at hents hJ
   exact ⟨⟨fun _=>⟨hN,a3,hJ,hents⟩,fun _=>rfl⟩,.inl rfl⟩
theorem NV {h:History} (hs:qo h):∃ v,aJ h=some v∧aF h=some v∧(v=0∨v=1)∧(v=0↔fo h):=by
 obtain ⟨v,hv,v',hv',rfl,a1⟩:=Gd hs;obtain ⟨w,hw,h1,h2⟩:=Hr hs;have:v=w:=Option.some.inj (hv'.symm.trans hw);subst this;exact ⟨v,hv,hv',a1,h1⟩
end Go.Proofs.YtfpeabnehpclnaaGreatT
namespace Go.Proofs.YtfpeabnehpclnaaGreatT
open Go Go.Proofs Go.Proofs.YtfpeabnehpclnaaGreatE
set_option linter.unusedVariables false
set_option linter.unusedSimpArgs false
def xZ (ops:List Op) (key:Int) (p:Nat):List Int:=((ops.take p).filter (fun o=>decide (o.Key=key∧o.Kind≤4))).map (·.Arg)
theorem Dp {ops:List Op} {key:Int} {p:Nat} (h:p < ops.length):xZ ops key (p + 1)=if (idx ops (p:Int)).Key=key∧(idx ops (p:Int)).Kind≤4 then xZ ops key p++[(idx ops (p:Int)).Arg] else xZ ops key p:=by
 unfold xZ
 rw [tJ h,List.filter_append,List.map_append]
 by_cases e:(idx ops (p:Int)).Key=key∧(idx ops (p:Int)).Kind≤4
 ·simp [e]
 ·rw [if_neg e]
  simp only [List.filter_cons,List.filter_nil,decide_eq_true_eq,if_neg e]
  simp
theorem AR {ops:List Op} {key:Int} {p:Nat}:(xZ ops key p).length≤ops.length:=by
 unfold xZ
 rw [List.length_map]
 exact Nat.le_trans (List.length_filter_le _ _) (by simp; omega)
def GI (ops:List Op) (t:Int) (p:Nat):List Ask :=
 let o:=idx ops (p:Int)
 let mine:=xZ ops o.Key p
 if o.Kind≤4 then [] else if mine=[] then [⟨t,p,o.Key,o.Vals⟩] else if (before (o.Kind - 4) o.Vals mine).2=true∧o.Kind≠5 then [⟨t,p,o.Key,(before (o.Kind - 4) o.Vals mine).1⟩] else []
def Gg (ops:List Op) (t:Int) (p:Nat):List Spot :=
 let o:=idx ops (p:Int)
 let mine:=xZ ops o.Key p
 if o.Kind≤4 then [] else if mine=[] then [] else if (before (o.Kind - 4) o.Vals mine).2=true then [] else [⟨t,p⟩]
def yN (ops:List Op) (t:Int) (k:Nat):List Ask:=(List.range k).flatMap (GI ops t)
def yc (ops:List Op) (t:Int) (k:Nat):List Spot:=(List.range k).flatMap (Gg ops t)
theorem CJ {ops:List Op} {t:Int} {k:Nat}:yN ops t (k + 1)=yN ops t k++GI ops t k:=by
 unfold yN; rw [List.range_succ,List.flatMap_append]; simp
theorem Bw {ops:List Op} {t:Int} {k:Nat}:yc ops t (k + 1)=yc ops t k++Gg ops t k:=by
 unfold yc; rw [List.range_succ,List.flatMap_append]; simp
theorem Ew {ops:List Op} {t:Int} {k:Nat}:(yN ops t k).length≤k:=by
 induction k with
 | zero=>simp [yN]
 | succ k ih =>
  rw [CJ,List.length_append]
  have:(GI ops t k).length≤1:=by
   unfold GI
   dsimp only
   split
   ·simp
   ·split
    ·simp
    ·split <;> simp
  omega
theorem CK {ops:List Op} {t:Int} {k:Nat}:(yc ops t k).length≤k:=by
 induction k with
 | zero=>simp [yc]
 | succ k ih =>
  rw [Bw,List.length_append]
  have:(Gg ops t k).length≤1:=by
   unfold Gg
   dsimp only
   split
   ·simp
   ·split
    ·simp
    ·split <;> simp
  omega
def yO (h:History) (t:Int):List Ask:=if (idx h.Txns t).Status=1 then yN (idx h.Txns t).Ops t (idx h.Txns t).Ops.length else []
def zB (h:History) (t:Int):List Spot:=if (idx h.Txns t).Status=1 then yc (idx h.Txns t).Ops t (idx h.Txns t).Ops.length else []
def Pj (ops:List Op):Prop:=ops.length≤16∧zn ops (fun o=>1≤o.Kind∧o.Kind≤8∧o.Vals.length≤64)
theorem Fe.ops {h:History} {i:Nat} (hi:Fe h i):Pj (idx h.Txns (i:Int)).Ops:=by
 obtain ⟨_,_,_,_,h1,h2⟩:=hi;refine ⟨by simpa [DZ,eF] using h1,fun j hj => ?_⟩
 have:=h2 j (by simpa [DZ,eF] using hj)
 dsimp only [DZ,eF] at this
 rw [BC hj] at this
 unfold xM Ag at this
 dsimp only at this
 grind
theorem PZ {h:History} {t:Nat} {f:gu} (ht:t < h.Txns.length) (ho:Pj (idx h.Txns (t:Int)).Ops) (ha:f.asks.length≤1000000) (hb:f.bad.length≤1000000) :
  Tri (bL f h (t:Int)) (fun r=>r=⟨f.asks++yO h (t:Int),f.bad++zB h (t:Int)⟩):=by
 unfold bL yO zB;refine aj (by omega) ?_;refine aA (fun h1 => ?_) (fun h1 => ?_)
 ·rw [if_neg h1,if_neg h1]
  exact ag (by simp)
 ·have h1:(idx h.Txns (t:Int)).Status=1:=Decidable.of_not_not h1
  rw [if_pos h1,if_pos h1]
  generalize hx:(idx h.Txns (t:Int)).Ops=ops at ho ⊢;obtain ⟨a4,hall⟩:=ho;refine bX (k0:=0) ops.length (fun k s=>s.1=f.asks++yN ops (t:Int) k∧s.2.1=f.bad++yc ops (t:Int) k∧(∀ key,mat s.2.2.1 key=xZ ops key k)∧s.2.2.2=(k:Int)) (Nat.zero_le _)
   ⟨by simp [yN],by simp [yc],fun key=>rfl,rfl⟩ ?_
  rintro k ⟨l1,l2,m,x⟩ hk ⟨e1,e2,hm,e4⟩
  dsimp only at e1 e2 hm e4
  subst e1 e2 e4;unfold tN oD oC jO
  simp only [cond_true,cond_false,hx,hm]
  have hw:w64 ((k:Int) + 1)=((k + 1:Nat):Int):=aZ (by omega);have l1:=Ew (ops:=ops) (t:=(t:Int)) (k:=k);have l2:=CK (ops:=ops) (t:=(t:Int)) (k:=k);have l3:=AR (ops:=ops) (key:=(idx ops (k:Int)).Key) (p:=k);have hn:∀ key,k < ops.length→xZ ops key (k + 1)=_:=fun key hk=>Dp hk
  rw [hw]
  refine aA (fun a2 => ?_) (fun a2 => ?_)
  ·have a1:k < ops.length:=by omega
   obtain ⟨o1,o2,o3⟩:=hall k a1;have a3:w64 ((idx ops (k:Int)).Kind - 4)=(idx ops (k:Int)).Kind - 4:=cZ (by omega) (by omega);have hbf:=EZ ((idx ops (k:Int)).Kind - 4) (s:=(idx ops (k:Int)).Vals) (args:=xZ ops (idx ops (k:Int)).Key k) (by omega) (by omega);have hcl:iE (idx ops (k:Int)).Vals=some (idx ops (k:Int)).Vals:=lJ _ (by omega)
   rw [a3,hbf,hcl]
   simp only [List.length_append]
   have hA:=CJ (ops:=ops) (t:=(t:Int)) (k:=k);have hB:=Bw (ops:=ops) (t:=(t:Int)) (k:=k);have hnil:∀ l:List Int,l=[]↔l.length=0:=fun l=>List.length_eq_zero_iff.symm;unfold GI at hA;unfold Gg at hB
   dsimp only at hA hB
   repeat' (first | contradiction | with_reducible refine aA (fun hq => ?_) (fun hq => ?_) | with_reducible refine aj (by first | omega | grind [cZ]) ?_ | with_reducible refine aD ?_ | with_reducible refine dA ?_ | with_reducible refine dQ ?_ | with_reducible refine dR ?_ | with_reducible refine dS ?_ | with_reducible refine ag ?_)
   all_goals (refine ⟨a1,?_,?_,fun key => ?_,rfl⟩ <;> dsimp only)
   all_goals grind [zD]
  ·have:k=ops.length:=by omega
   subst this
   repeat' (first | contradiction | with_reducible refine aA (fun hq => ?_) (fun hq => ?_) | with_reducible refine aj (by first | omega | grind [cZ]) ?_ | with_reducible refine aD ?_ | with_reducible refine dA ?_ | with_reducible refine dQ ?_ | with_reducible refine dR ?_ | with_reducible refine dS ?_ | with_reducible refine ag ?_)
   rfl
theorem RI {k:Int} (h1:5≤k) (h8:k≤8):typ k=k - 4:=by unfold typ; omega
theorem MH {h:History} {t:Nat} (ht:t < h.Txns.length) (ho:Pj (idx h.Txns (t:Int)).Ops) :
  bD h (t:Int)=some (yO h (t:Int),zB h (t:Int)):=by
 refine eH.1 ?_;unfold bD yO zB;refine aj (by omega) ?_;refine aA (fun h1 => ?_) (fun h1 => ?_)
 ·rw [if_neg h1,if_neg h1]
  exact ag rfl
 ·have h1:(idx h.Txns (t:Int)).Status=1:=Decidable.of_not_not h1
  rw [if_pos h1,if_pos h1]
  generalize hx:(idx h.Txns (t:Int)).Ops=ops at ho ⊢;obtain ⟨a4,hall⟩:=ho;refine bX (k0:=0) ops.length (fun k s=>s=(yN ops (t:Int) k,yc ops (t:Int) k,(k:Int))) (Nat.zero_le _) rfl ?_;rintro k s hk rfl;have l1:=Ew (ops:=ops) (t:=(t:Int)) (k:=k);have l2:=CK (ops:=ops) (t:=(t:Int)) (k:=k);have l3:=AR (ops:=ops) (key:=(idx ops (k:Int)).Key) (p:=k);have hw:w64 ((k:Int) + 1)=((k + 1:Nat):Int):=aZ (by omega);unfold vN iK
  simp only [hx]
  refine aA (fun a2 => ?_) (fun a2 => ?_)
  ·have a1:k < ops.length:=by omega
   obtain ⟨o1,o2,o3⟩:=hall k a1;have hA:=CJ (ops:=ops) (t:=(t:Int)) (k:=k);have hB:=Bw (ops:=ops) (t:=(t:Int)) (k:=k);unfold GI at hA;unfold Gg at hB
   dsimp only at hA hB
   refine aj (by omega) (dA (aA (fun a3 => ?_) (fun a3 => ?_)))
   ·unfold jH
    rw [hw]
    refine ag ⟨a1,?_⟩
    grind
   ·refine bX (k0:=0) k (fun j s=>s=(xZ ops (idx ops (k:Int)).Key j,(j:Int))) (Nat.zero_le _) rfl ?_;rintro j s hj rfl;have l4:=AR (ops:=ops) (key:=(idx ops (k:Int)).Key) (p:=j);have hwj:w64 ((j:Int) + 1)=((j + 1:Nat):Int):=aZ (by omega);have hn:j < ops.length→xZ ops (idx ops (k:Int)).Key (j + 1)=_:=fun hk=>Dp hk;have hbf:=Hl ((idx ops (k:Int)).Kind - 4) (s:=(idx ops (k:Int)).Vals) (args:=xZ ops (idx ops (k:Int)).Key j) (by omega) (by omega);have hty:jG (idx ops (k:Int)).Kind=some ((idx ops (k:Int)).Kind - 4):=by rw [Dn o1 o2,RI (by omega) o2]
    unfold vM rA rC rz jH iK
    simp only [cond_true,cond_false,hx,hw,hwj,hty,hbf,List.nil_append]
    have hnil:∀ l:List Int,l=[]↔l.length=0:=fun l=>List.length_eq_zero_iff.symm
    repeat' (first | contradiction | with_reducible refine aA (fun hq => ?_) (fun hq => ?_) | with_reducible refine aj (by first | omega | grind [cZ]) ?_ | with_reducible refine aD ?_ | with_reducible refine dA ?_ | with_reducible refine dQ ?_ | with_reducible refine dR ?_ | with_reducible refine dS ?_ | with_reducible refine ag ?_ | refine bA hbf ?_)
    all_goals grind [Upm]
  ·have:k=ops.length:=by omega
   subst this
   repeat' (first | contradiction | with_reducible refine aA (fun hq => ?_) (fun hq => ?_) | with_reducible refine aj (by first | omega | grind [cZ]) ?_ | with_reducible refine aD ?_ | with_reducible refine dA ?_ | with_reducible refine dQ ?_ | with_reducible refine dR ?_ | with_reducible refine dS ?_ | with_reducible refine ag ?_)
   rfl
end Go.Proofs.YtfpeabnehpclnaaGreatT
namespace Go.Proofs.YtfpeabnehpclnaaGreatT
open Go Go.Proofs Go.Proofs.YtfpeabnehpclnaaGreatE
set_option linter.unusedVariables false
set_option linter.unusedSimpArgs false
theorem JS {a b:List Int} (ha:a.length < 2 ^ 62):dN a b=some (decide (a=b)):=by
 refine zC.1 ?_;unfold dN;refine aA (fun h => ?_) (fun h => ?_)
 ·refine ag ?_;have:a≠b:=by rintro rfl; exact h rfl
  simp [this]
 ·have hl:a.length=b.length:=by grind
  refine tH a.length (fun j=>idx a (j:Int)=idx b (j:Int)) ?_;intro k hk hJ;have hw:w64 ((k:Int) + 1)=((k + 1:Nat):Int):=aZ (by omega);have hx:(∀ j:Nat,j < a.length→idx a (j:Int)=idx b (j:Int))→a=b:=fun h=>Nf hl h;unfold lh
  dsimp only
  rw [hw]
  repeat' (first | contradiction | with_reducible refine aA (fun hq => ?_) (fun hq => ?_) | with_reducible refine aj (by first | omega | grind [cZ]) ?_ | with_reducible refine aD ?_ | with_reducible refine dA ?_ | with_reducible refine dQ ?_ | with_reducible refine dR ?_ | with_reducible refine dS ?_ | with_reducible refine ag ?_)
  ·show false=true↔a=b
   grind
  ·exact ⟨rfl,by omega,by grind⟩
  ·show true=true↔a=b
   grind
end Go.Proofs.YtfpeabnehpclnaaGreatT
namespace Go.Proofs.YtfpeabnehpclnaaGreatT
open Go Go.Proofs Go.Proofs.YtfpeabnehpclnaaGreatE
set_option linter.unusedVariables false
set_option linter.unusedSimpArgs false
abbrev OG (y:Op):Prop:=((Lit.int .i64 (y).Kind).wf=true)∧((Lit.int .i64 (y).Key).wf=true)∧((Lit.int .i64 (y).Arg).wf=true)∧(True)∧((∀ z ∈ (y).Vals,(Lit.int .i64 z).wf=true)∧((y).Vals).length * 8≤140737488351232)
abbrev TG (y:Txn):Prop:=((Lit.int .i64 (y).Proc).wf=true)∧((Lit.int .i64 (y).Status).wf=true)∧((Lit.int .i64 (y).From).wf=true)∧((Lit.int .i64 (y).To).wf=true)∧((∀ z ∈ (y).Ops,OG z)∧((y).Ops).length * 56≤140737488351232)
abbrev HG (K:ByteArray→Prop) (x:History):Prop:=((∀ y ∈ (x).Keys,K y)∧((x).Keys).length * 16≤140737488351232)∧((∀ y ∈ (x).Txns,TG y)∧((x).Txns).length * 56≤140737488351232)
theorem HG.small {K:ByteArray→Prop} {h:History} (g:HG K h):qo h :=
 ⟨g.1.2,g.2.2,CZ.2 fun t ht=>⟨(g.2.1 t ht).2.2.2.2.2,CZ.2 fun o ho=>((g.2.1 t ht).2.2.2.2.1 o ho).2.2.2.2.2⟩⟩
theorem Ff {h:History} {t:Nat} (ho:Pj (idx h.Txns (t:Int)).Ops):(yO h (t:Int)).length≤16∧(zB h (t:Int)).length≤16∧zn (yO h (t:Int)) (fun x=>x.Base.length < 2 ^ 62):=by
 have h1:=Ew (ops:=(idx h.Txns (t:Int)).Ops) (t:=(t:Int)) (k:=(idx h.Txns (t:Int)).Ops.length);have h2:=CK (ops:=(idx h.Txns (t:Int)).Ops) (t:=(t:Int)) (k:=(idx h.Txns (t:Int)).Ops.length);have h3:=ho.1;refine ⟨?_,?_,?_⟩
 ·unfold yO; split
  ·omega
  ·simp
 ·unfold zB; split
  ·omega
  ·simp
 ·rw [CZ]
  intro x hx;unfold yO at hx
  split at hx
  ·unfold yN at hx
   rw [List.mem_flatMap] at hx
   obtain ⟨p,hp,hx⟩:=hx;have hp:p < _:=List.mem_range.1 hp;have hv:=(ho.2 p hp).2.2;have hb:=Ld ((idx (idx h.Txns (t:Int)).Ops (p:Int)).Kind - 4) (idx (idx h.Txns (t:Int)).Ops (p:Int)).Vals (xZ (idx h.Txns (t:Int)).Ops (idx (idx h.Txns (t:Int)).Ops (p:Int)).Key p);unfold GI at hx
   dsimp only at hx
   split at hx
   ·simp at hx
   ·split at hx
    ·simp at hx; subst hx; dsimp only; omega
    ·split at hx
     ·simp at hx; subst hx; dsimp only; omega
     ·simp at hx
  ·simp at hx
end Go.Proofs.YtfpeabnehpclnaaGreatT
namespace Go.Proofs.YtfpeabnehpclnaaGreatT
open Go Go.Proofs Go.Proofs.YtfpeabnehpclnaaGreatE
set_option linter.unusedVariables false
set_option linter.unusedSimpArgs false
def bn (h:History) (k:Nat):List Ask:=(List.range k).flatMap (fun t=>yO h ((t:Nat):Int))
def nX (h:History) (k:Nat):List Spot:=(List.range k).flatMap (fun t=>zB h ((t:Nat):Int))
theorem Bz {h:History} {k:Nat}:bn h (k + 1)=bn h k++yO h (k:Int):=by
 unfold bn; rw [List.range_succ,List.flatMap_append]; simp
theorem Ah {h:History} {k:Nat}:nX h (k + 1)=nX h k++zB h (k:Int):=by
 unfold nX; rw [List.range_succ,List.flatMap_append]; simp
theorem pG {h:History} (hS:fo h):∀ k:Nat,k≤h.Txns.length→(bn h k).length≤16 * k∧(nX h k).length≤16 * k∧zn (bn h k) (fun x=>x.Base.length < 2 ^ 62):=by
 intro k
 induction k with
 | zero=>intro _; simp [bn,nX,zn]
 | succ k ih =>
  intro hk;obtain ⟨i1,i2,i3⟩:=ih (by omega);obtain ⟨b1,b2,b3⟩:=Ff (hS.txn k (by omega)).ops
  rw [Bz,Ah,List.length_append,List.length_append]
  refine ⟨by omega,by omega,?_⟩
  rw [CZ] at i3 b3 ⊢
  intro x hx;rcases List.mem_append.1 hx with hx | hx
  ·exact i3 x hx
  ·exact b3 x hx
theorem Fg {h:History} (hs:qo h) (hS:fo h) (hc:aJ h=some 0):qF h=some (⟨bn h h.Txns.length,nX h h.Txns.length⟩,0):=by
 have a3:=hS.len;refine eH.1 ?_;unfold qF;refine bA hc ?_
 rw [bne_self_eq_false,cond_false]
 refine bX (k0:=0) h.Txns.length (fun k s=>s=(bn h k,nX h k,(k:Int))) (Nat.zero_le _) rfl ?_;rintro k s hk rfl;have hw:w64 ((k:Int) + 1)=((k + 1:Nat):Int):=aZ (by omega);obtain ⟨i1,i2,i3⟩:=pG hS k hk;unfold Be
 dsimp only
 refine aA (fun a2 => ?_) (fun a2 => ?_)
 ·have a1:k < h.Txns.length:=by omega
  refine dZ (PZ a1 (hS.txn k a1).ops (by dsimp only; omega) (by dsimp only; omega)) (fun r hr => ?_);subst hr;refine ag ⟨a1,?_⟩
  dsimp only
  rw [hw,Bz,Ah]
 ·have:k=h.Txns.length:=by omega
  subst this;exact aD (ag rfl)
theorem CL {h:History} (hs:qo h) (hS:fo h):gq h=some (bn h h.Txns.length,nX h h.Txns.length):=by
 have a3:=hS.len;refine eH.1 ?_;unfold gq;refine bX (k0:=0) h.Txns.length (fun k s=>s=(bn h k,nX h k,(k:Int))) (Nat.zero_le _) rfl ?_;rintro k s hk rfl;have hw:w64 ((k:Int) + 1)=((k + 1:Nat):Int):=aZ (by omega);obtain ⟨i1,i2,i3⟩:=pG hS k hk;unfold uF
 dsimp only
 refine aA (fun a2 => ?_) (fun a2 => ?_)
 ·have a1:k < h.Txns.length:=by omega
  have ho:=(hS.txn k a1).ops;obtain ⟨b1,b2,b3⟩:=Ff ho;refine bA (MH a1 ho) ?_
  dsimp only
  refine aj (by omega) (aj (by omega) (ag ⟨a1,?_⟩))
  dsimp only
  rw [hw,Bz,Ah]
 ·have:k=h.Txns.length:=by omega
  subst this;exact aD (ag rfl)
end Go.Proofs.YtfpeabnehpclnaaGreatT
namespace Go.Proofs.YtfpeabnehpclnaaGreatT
open Go Go.Proofs Go.Proofs.YtfpeabnehpclnaaGreatE
set_option linter.unusedVariables false
set_option linter.unusedSimpArgs false
def jA (h:History) (t:Int) (key:Int):List Int:=xZ (idx h.Txns t).Ops key (idx h.Txns t).Ops.length
theorem GJ {h:History} {t key:Int}:(jA h t key).length≤(idx h.Txns t).Ops.length:=AR
theorem IK {x:Txn} {key:Int} (ho:x.Ops.length≤16):fA x key=some (xZ x.Ops key x.Ops.length):=by
 refine eH.1 ?_;unfold fA;refine bX (k0:=0) x.Ops.length (fun k s=>s=(xZ x.Ops key k,(k:Int))) (Nat.zero_le _) rfl ?_;rintro k s hk rfl;have hw:w64 ((k:Int) + 1)=((k + 1:Nat):Int):=aZ (by omega);have l3:=AR (ops:=x.Ops) (key:=key) (p:=k);have hn:k < x.Ops.length→xZ x.Ops key (k + 1)=_:=fun hk=>Dp hk;unfold yB vk vg
 dsimp only
 rw [hw]
 refine aA (fun a2 => ?_) (fun a2 => ?_)
 ·have a1:k < x.Ops.length:=by omega
  replace hn:=hn a1
  repeat' (first | contradiction | with_reducible refine aA (fun hq => ?_) (fun hq => ?_) | with_reducible refine aj (by first | omega | grind [cZ]) ?_ | with_reducible refine aD ?_ | with_reducible refine dA ?_ | with_reducible refine dQ ?_ | with_reducible refine dR ?_ | with_reducible refine dS ?_ | with_reducible refine ag ?_)
  all_goals (refine ⟨a1,?_⟩; dsimp only; grind)
 ·have:k=x.Ops.length:=by omega
  subst this
  repeat' (first | contradiction | with_reducible refine aA (fun hq => ?_) (fun hq => ?_) | with_reducible refine aj (by first | omega | grind [cZ]) ?_ | with_reducible refine aD ?_ | with_reducible refine dA ?_ | with_reducible refine dQ ?_ | with_reducible refine dR ?_ | with_reducible refine dS ?_ | with_reducible refine ag ?_)
  all_goals rfl
theorem yP {h:History} {t key:Int} (ht:0≤t∧t < (h.Txns.length:Int)) (ho:(idx h.Txns t).Ops.length≤16):bf h t key=some (jA h t key):=by
 refine eH.1 ?_;unfold bf jA;generalize hx:(idx h.Txns t).Ops=ops at ho ⊢;refine bX (k0:=0) ops.length (fun k s=>s=(xZ ops key k,(k:Int))) (Nat.zero_le _) rfl ?_;rintro k s hk rfl;have hw:w64 ((k:Int) + 1)=((k + 1:Nat):Int):=aZ (by omega);have l3:=AR (ops:=ops) (key:=key) (p:=k);have hn:k < ops.length→xZ ops key (k + 1)=_:=fun hk=>Dp hk;unfold su nO nN iK
 simp only [hx,hw,Option.bind_some]
 refine aj ht ?_;refine aA (fun a2 => ?_) (fun a2 => ?_)
 ·have a1:k < ops.length:=by omega
  replace hn:=hn a1
  repeat' (first | contradiction | with_reducible refine aA (fun hq => ?_) (fun hq => ?_) | with_reducible refine aj (by first | omega | grind [cZ]) ?_ | with_reducible refine aD ?_ | with_reducible refine dA ?_ | with_reducible refine dQ ?_ | with_reducible refine dR ?_ | with_reducible refine dS ?_ | with_reducible refine ag ?_)
  all_goals (refine ⟨a1,?_⟩; dsimp only; grind)
 ·have:k=ops.length:=by omega
  subst this
  repeat' (first | contradiction | with_reducible refine aA (fun hq => ?_) (fun hq => ?_) | with_reducible refine aj (by first | omega | grind [cZ]) ?_ | with_reducible refine aD ?_ | with_reducible refine dA ?_ | with_reducible refine dQ ?_ | with_reducible refine dR ?_ | with_reducible refine dS ?_ | with_reducible refine ag ?_)
  all_goals rfl
def IL (h:History) (key:Int) (t:Nat):Bool:=decide ((idx h.Txns (t:Int)).Status≠2∧0 < (jA h (t:Int) key).length)
def gF (h:History) (key:Int) (k:Nat):List Int:=((List.range k).filter (IL h key)).map (fun t:Nat=>(t:Int))
def mD (h:History) (a:Ask) (k:Nat):List Int:=(gF h a.Key k).filter (fun t=>decide (t≠a.Txn))
theorem yQ {h:History} {key:Int} {k:Nat}:gF h key (k + 1)=if IL h key k then gF h key k++[(k:Int)] else gF h key k:=by
 unfold gF
 rw [List.range_succ,List.filter_append,List.map_append]
 by_cases hw:IL h key k=true <;> simp [hw]
theorem qH {h:History} {key:Int} {k:Nat}:(gF h key k).length≤k:=by
 unfold gF
 rw [List.length_map]
 exact Nat.le_trans (List.length_filter_le _ _) (by simp)
theorem JU {h:History} {a:Ask} {k:Nat}:mD h a (k + 1)=if IL h a.Key k∧(k:Int)≠a.Txn then mD h a k++[(k:Int)] else mD h a k:=by
 unfold mD
 rw [yQ]
 by_cases hw:IL h a.Key k=true <;> by_cases hn:(k:Int)=a.Txn <;> simp [hw,hn]
theorem yf {h:History} {a:Ask} {k:Nat}:(mD h a k).length≤k:=Nat.le_trans (List.length_filter_le _ _) qH
theorem CO {h:History} {key:Int} {k:Nat} {t:Int}:t ∈ gF h key k↔0≤t∧t < (k:Int)∧(idx h.Txns t).Status≠2∧0 < (jA h t key).length:=by
 unfold gF
 simp only [List.mem_map,List.mem_filter,List.mem_range,IL,decide_eq_true_eq]
 constructor
 ·rintro ⟨n,⟨hn,h1,h2⟩,rfl⟩;exact ⟨by omega,by omega,h1,h2⟩
 ·rintro ⟨h0,h1,h2,h3⟩;refine ⟨t.toNat,⟨by omega,?_⟩,by omega⟩
  rw [show ((t.toNat:Nat):Int)=t by omega]
  exact ⟨h2,h3⟩
theorem wU {h:History} {a:Ask} {k:Nat} {t:Int}:t ∈ mD h a k↔(0≤t∧t < (k:Int)∧(idx h.Txns t).Status≠2∧0 < (jA h t a.Key).length)∧t≠a.Txn:=by
 unfold mD
 rw [List.mem_filter,CO,decide_eq_true_eq]
theorem Fh {h:History} (hS:fo h) (hc:aJ h=some 0) {key:Int}:eB h key=some (gF h key h.Txns.length):=by
 have a3:=hS.len;refine eH.1 ?_;unfold eB;refine bA hc ?_
 rw [bne_self_eq_false,cond_false]
 refine bX (k0:=0) h.Txns.length (fun k s=>s=(gF h key k,(k:Int))) (Nat.zero_le _) rfl ?_;rintro k s hk rfl;have hw:w64 ((k:Int) + 1)=((k + 1:Nat):Int):=aZ (by omega);have l3:=qH (h:=h) (key:=key) (k:=k);have hn:=yQ (h:=h) (key:=key) (k:=k);unfold IL jA at hn;unfold wN sQ sP
 dsimp only
 rw [hw]
 refine aA (fun a2 => ?_) (fun a2 => ?_)
 ·have a1:k < h.Txns.length:=by omega
  have hwt:=IK (x:=idx h.Txns (k:Int)) (key:=key) (hS.txn k a1).ops.1
  simp only [hwt,Option.bind_some]
  repeat' (first | contradiction | with_reducible refine aA (fun hq => ?_) (fun hq => ?_) | with_reducible refine aj (by first | omega | grind [cZ]) ?_ | with_reducible refine aD ?_ | with_reducible refine dA ?_ | with_reducible refine dQ ?_ | with_reducible refine dR ?_ | with_reducible refine dS ?_ | with_reducible refine ag ?_)
  all_goals (refine ⟨a1,?_⟩; dsimp only; grind)
 ·have:k=h.Txns.length:=by omega
  subst this
  repeat' (first | contradiction | with_reducible refine aA (fun hq => ?_) (fun hq => ?_) | with_reducible refine aj (by first | omega | grind [cZ]) ?_ | with_reducible refine aD ?_ | with_reducible refine dA ?_ | with_reducible refine dQ ?_ | with_reducible refine dR ?_ | with_reducible refine dS ?_ | with_reducible refine ag ?_)
  all_goals rfl
theorem CP {h:History} (hS:fo h) {a:Ask}:bv h a=some (mD h a h.Txns.length):=by
 have a3:=hS.len;refine eH.1 ?_;unfold bv;refine bX (k0:=0) h.Txns.length (fun k s=>s=(mD h a k,(k:Int))) (Nat.zero_le _) rfl ?_;rintro k s hk rfl;have hw:w64 ((k:Int) + 1)=((k + 1:Nat):Int):=aZ (by omega);have l3:=yf (h:=h) (a:=a) (k:=k);have hn:=JU (h:=h) (a:=a) (k:=k);unfold IL at hn;unfold qL ky mQ
 dsimp only
 rw [hw]
 refine aA (fun a2 => ?_) (fun a2 => ?_)
 ·have a1:k < h.Txns.length:=by omega
  have hwt:=yP (h:=h) (t:=(k:Int)) (key:=a.Key) ⟨by omega,by omega⟩ (hS.txn k a1).ops.1
  simp only [hwt,Option.bind_some]
  repeat' (first | contradiction | with_reducible refine aA (fun hq => ?_) (fun hq => ?_) | with_reducible refine aj (by first | omega | grind [cZ]) ?_ | with_reducible refine aD ?_ | with_reducible refine dA ?_ | with_reducible refine dQ ?_ | with_reducible refine dR ?_ | with_reducible refine dS ?_ | with_reducible refine ag ?_)
  all_goals (refine ⟨a1,?_⟩; dsimp only; grind)
 ·have:k=h.Txns.length:=by omega
  subst this
  repeat' (first | contradiction | with_reducible refine aA (fun hq => ?_) (fun hq => ?_) | with_reducible refine aj (by first | omega | grind [cZ]) ?_ | with_reducible refine aD ?_ | with_reducible refine dA ?_ | with_reducible refine dQ ?_ | with_reducible refine dR ?_ | with_reducible refine dS ?_ | with_reducible refine ag ?_)
  all_goals rfl
theorem NW {h:History} (hS:fo h) (hc:aJ h=some 0) {t key:Int}:kN h t key =
  some (if 0≤t∧t < (h.Txns.length:Int) then (jA h t key,decide (0 < (jA h t key).length)) else ([],false)):=by
 refine eH.1 ?_;unfold kN rT
 simp only [hc,Option.bind_some]
 by_cases ht:0≤t∧t < (h.Txns.length:Int)
 ·have h2:t=((t.toNat:Nat):Int):=by omega
  have ho:=(hS.txn t.toNat (by omega)).ops.1
  rw [← h2] at ho
  have hwt:=IK (x:=idx h.Txns t) (key:=key) ho
  simp only [hwt,Option.bind_some]
  rw [if_pos ht]
  unfold jA
  repeat' (first | contradiction | with_reducible refine aA (fun hq => ?_) (fun hq => ?_) | with_reducible refine aj (by first | omega | grind [cZ]) ?_ | with_reducible refine aD ?_ | with_reducible refine dA ?_ | with_reducible refine dQ ?_ | with_reducible refine dR ?_ | with_reducible refine dS ?_ | with_reducible refine ag ?_)
  all_goals (first | omega | simp)
 ·rw [if_neg ht]
  repeat' (first | contradiction | with_reducible refine aA (fun hq => ?_) (fun hq => ?_) | with_reducible refine aj (by first | omega | grind [cZ]) ?_ | with_reducible refine aD ?_ | with_reducible refine dA ?_ | with_reducible refine dQ ?_ | with_reducible refine dR ?_ | with_reducible refine dS ?_ | with_reducible refine ag ?_)
  all_goals (first | omega | rfl | simp)
def CQ (h:History) (a:Ask) (l:List Int):List bu:=l.map (fun t=>⟨t,jA h t a.Key⟩)
theorem CR {h:History} (hS:fo h) (hc:aJ h=some 0) {a:Ask}:dB h a=some (CQ h a (mD h a h.Txns.length)):=by
 have a3:=hS.len;refine eH.1 ?_;unfold dB;refine bA (Fh hS hc) ?_;obtain ⟨W,hW⟩:∃ W,W=gF h a.Key h.Txns.length:=⟨_,rfl⟩;have hWl:=qH (h:=h) (key:=a.Key) (k:=h.Txns.length);have hWm:∀ j:Nat,j < W.length→idx W (j:Int) ∈ gF h a.Key h.Txns.length:=by
  intro j hj
  rw [← hW,dJ (n:=j) (by omega) (by omega)]
  exact List.getElem_mem _
 unfold mD
 rw [← hW] at hWl ⊢
 refine bX (k0:=0) W.length (fun k s=>s=(CQ h a ((W.take k).filter (fun t=>decide (t≠a.Txn))),(k:Int))) (Nat.zero_le _) (by simp [CQ]) ?_;rintro k s hk rfl;have hw:w64 ((k:Int) + 1)=((k + 1:Nat):Int):=aZ (by omega);have l3:(CQ h a ((W.take k).filter (fun t=>decide (t≠a.Txn)))).length≤32:=by
  unfold CQ
  rw [List.length_map]
  exact Nat.le_trans (List.length_filter_le _ _) (by rw [List.length_take]; omega)
 unfold wO sU sS
 dsimp only
 rw [hw]
 refine aA (fun a2 => ?_) (fun a2 => ?_)
 ·have a1:k < W.length:=by omega
  have hm:=CO.1 (hWm k a1);have hn:CQ h a ((W.take (k + 1)).filter (fun t=>decide (t≠a.Txn)))=if idx W (k:Int)≠a.Txn then CQ h a ((W.take k).filter (fun t=>decide (t≠a.Txn)))++[⟨idx W (k:Int),jA h (idx W (k:Int)) a.Key⟩] else CQ h a ((W.take k).filter (fun t=>decide (t≠a.Txn))):=by
   rw [List.take_succ_eq_append_getElem a1,List.filter_append]
   have:W[k]=idx W (k:Int):=(dJ (n:=k) (by omega) a1).symm
   rw [this]
   unfold CQ
   by_cases hq:idx W (k:Int)=a.Txn <;> simp [hq]
  simp only [NW hS hc,Option.bind_some,if_pos (show 0≤idx W (k:Int)∧idx W (k:Int) < (h.Txns.length:Int) from ⟨hm.1,hm.2.1⟩)]
  repeat' (first | contradiction | with_reducible refine aA (fun hq => ?_) (fun hq => ?_) | with_reducible refine aj (by first | omega | grind [cZ]) ?_ | with_reducible refine aD ?_ | with_reducible refine dA ?_ | with_reducible refine dQ ?_ | with_reducible refine dR ?_ | with_reducible refine dS ?_ | with_reducible refine ag ?_)
  all_goals (refine ⟨a1,?_⟩; dsimp only; grind)
 ·have:k=W.length:=by omega
  subst this
  repeat' (first | contradiction | with_reducible refine aA (fun hq => ?_) (fun hq => ?_) | with_reducible refine aj (by first | omega | grind [cZ]) ?_ | with_reducible refine aD ?_ | with_reducible refine dA ?_ | with_reducible refine dQ ?_ | with_reducible refine dR ?_ | with_reducible refine dS ?_ | with_reducible refine ag ?_)
  all_goals exact (by rw [List.take_length]:CQ h a ((W.take W.length).filter (fun t=>decide (t≠a.Txn)))=CQ h a (W.filter (fun t=>decide (t≠a.Txn))))
end Go.Proofs.YtfpeabnehpclnaaGreatT
namespace Go.Proofs.YtfpeabnehpclnaaGreatT
open Go Go.Proofs Go.Proofs.YtfpeabnehpclnaaGreatE
set_option linter.unusedVariables false
set_option linter.unusedSimpArgs false
def opAt (h:History) (t p:Int):Op:=idx (idx h.Txns t).Ops p
theorem Pk {h:History} {n t p:Nat} (ht:t < n) (hp:p < (idx h.Txns (t:Int)).Ops.length):(Ag h (opAt h (t:Int) (p:Int)),(t:Int)) ∈ xQ h n:=by
 unfold xQ Ef eF opAt
 rw [List.mem_flatMap]
 refine ⟨t,List.mem_range.2 ht,?_⟩
 rw [List.map_map,List.mem_map]
 refine ⟨idx (idx h.Txns (t:Int)).Ops (p:Int),?_,rfl⟩
 rw [dJ (n:=p) rfl hp]
 exact List.getElem_mem _
theorem RJ {L:List (Call×Int)} (h:uM [] L) {e f:Call×Int} (he:e ∈ L) (hf:f ∈ L) (hk:e.1.Key=f.1.Key):typ e.1.Kind=typ f.1.Kind:=by
 obtain ⟨i,hi,rfl⟩:=List.getElem_of_mem he;obtain ⟨j,hj,rfl⟩:=List.getElem_of_mem hf;rcases Nat.lt_trichotomy i j with hij | hij | hij
 ·have:=(h j hj).1 L[i] (by rw [List.nil_append]; exact List.mem_take_iff_getElem.2 ⟨i,by omega,rfl⟩) (by rw [dJ (n:=j) rfl hj]; exact hk)
  rwa [dJ (n:=j) rfl hj] at this
 ·subst hij; rfl
 ·have:=(h i hi).1 L[j] (by rw [List.nil_append]; exact List.mem_take_iff_getElem.2 ⟨j,by omega,rfl⟩) (by rw [dJ (n:=i) rfl hi]; exact hk.symm)
  rw [dJ (n:=i) rfl hi] at this
  exact this.symm
theorem MI {h:History} (hS:fo h) {t p t' p':Nat} (ht:t < h.Txns.length) (hp:p < (idx h.Txns (t:Int)).Ops.length) (ht':t' < h.Txns.length) (hp':p' < (idx h.Txns (t':Int)).Ops.length)
  (hk:(opAt h (t:Int) (p:Int)).Key=(opAt h (t':Int) (p':Int)).Key):typ (opAt h (t:Int) (p:Int)).Kind=typ (opAt h (t':Int) (p':Int)).Kind :=
 RJ hS.ents (Pk ht hp) (Pk ht' hp') (by show idx h.Keys _=idx h.Keys _; rw [hk])
theorem Dq {h:History} (hS:fo h) {t p:Nat} (ht:t < h.Txns.length) (hp:p < (idx h.Txns (t:Int)).Ops.length):1≤(opAt h (t:Int) (p:Int)).Kind∧(opAt h (t:Int) (p:Int)).Kind≤8:=by
 obtain ⟨h1,h2⟩:=(hS.txn t ht).ops;have:=h2 p hp;exact ⟨this.1,this.2.1⟩
theorem Kr {h:History} (hS:fo h) {a:Ask} {t p:Nat} (ht:t < h.Txns.length) (hp:p < (idx h.Txns (t:Int)).Ops.length) (e1:a.Txn=(t:Int)) (e2:a.Place=(p:Int)) :
  lZ h a=some (typ (opAt h (t:Int) (p:Int)).Kind):=by
 obtain ⟨k1,k2⟩:=Dq hS ht hp;refine eH.1 ?_;unfold lZ
 rw [e1,e2]
 refine aj (by omega) (aj (by omega) ?_);exact bA (Dn k1 k2) (ag rfl)
theorem Dr {h:History} (hS:fo h) (hc:aJ h=some 0) {key:Int} {t0 p0:Nat} (a3:t0 < h.Txns.length) (a5:p0 < (idx h.Txns (t0:Int)).Ops.length) (a4:(opAt h (t0:Int) (p0:Int)).Key=key) :
  gQ h key=some (typ (opAt h (t0:Int) (p0:Int)).Kind):=by
 have b0:=hS.len;refine eH.1 ?_;unfold gQ;refine bA hc ?_
 rw [bne_self_eq_false,cond_false]
 refine bX (k0:=0) h.Txns.length (fun k s=>s=(k:Int)∧∀ t p:Nat,t < k→p < (idx h.Txns (t:Int)).Ops.length→(opAt h (t:Int) (p:Int)).Key≠key) (Nat.zero_le _) ⟨rfl,fun t p h=>absurd h (Nat.not_lt_zero _)⟩ ?_;rintro k s hk ⟨rfl,hno⟩;have hw:w64 ((k:Int) + 1)=((k + 1:Nat):Int):=aZ (by omega);unfold zN;refine aA (fun a9 => ?_) (fun a9 => ?_)
 ·have a1:k < h.Txns.length:=by omega
  refine aj (by omega) ?_;have b1:=(hS.txn k a1).ops.1;refine bX (k0:=0) (idx h.Txns (k:Int)).Ops.length (fun m s=>s=(m:Int)∧∀ p:Nat,p < m→(opAt h (k:Int) (p:Int)).Key≠key) (Nat.zero_le _) ⟨rfl,fun p h=>absurd h (Nat.not_lt_zero _)⟩ ?_;rintro m s hm ⟨rfl,a6⟩;have a7:w64 ((m:Int) + 1)=((m + 1:Nat):Int):=aZ (by omega);unfold zM
  dsimp only
  rw [hw,a7]
  refine aA (fun a8 => ?_) (fun a8 => ?_)
  ·have a2:m < (idx h.Txns (k:Int)).Ops.length:=by omega
   refine aj (by omega) ?_;refine aA (fun he => ?_) (fun he => ?_)
   ·obtain ⟨k1,k2⟩:=Dq hS a1 a2;refine bA (CG k1 k2) (aD (aD (ag ?_)));exact MI hS a1 a2 a3 a5 ((show (opAt h (k:Int) (m:Int)).Key=key from he).trans a4.symm)
   ·refine ag ⟨a2,rfl,fun p hp => ?_⟩;rcases Nat.lt_or_ge p m with h1 | h1
    ·exact a6 p h1
    ·have:p=m:=by omega
     subst this;exact he
  ·have:m=(idx h.Txns (k:Int)).Ops.length:=by omega
   subst this;refine aD (ag ⟨a1,rfl,fun t p ht hp => ?_⟩);rcases Nat.lt_or_ge t k with h1 | h1
   ·exact hno t p h1 hp
   ·have:t=k:=by omega
    subst this;exact a6 p hp
 ·have:k=h.Txns.length:=by omega
  subst this;exact absurd a4 (hno t0 p0 a3 a5)
end Go.Proofs.YtfpeabnehpclnaaGreatT
