import Derived.Test.YtfpeabnehpclnaaGreatTD
import Derived.Test.YtfpeabnehpclnaaGreatXA
import Derived.Test.YtfpeabnehpclnaaGreatY
import Derived.Test.YtfpeabnehpclnaaGreatTF
namespace Go.Proofs.YtfpeabnehpclnaaGreatT
open Go Go.Proofs Go.Proofs.YtfpeabnehpclnaaGreatE
set_option linter.unusedVariables false
set_option linter.unusedSimpArgs false
def Upm {S Ω:Type} (n k:Nat) (J:Nat→S→Prop) (Q:Ω→Prop):S ⊕ Ω→Prop
 | .inl s'=>k < n∧J (k + 1) s'
 | .inr o=>Q o
theorem bX {S Ω:Type} {step:S→Option (S ⊕ Ω)} {Q:Ω→Prop} (n:Nat) (J:Nat→S→Prop) {s0:S} {k0:Nat} (a1:k0≤n) (h0:J k0 s0)
  (hs:∀ (k:Nat) (s:S),k≤n→J k s→Tri (step s) (Upm n k J Q)):Tri (iter step s0) Q:=by
 generalize hd:n - k0=d
 induction d using Nat.strongRecOn generalizing k0 s0 with
 | ind d ih =>
  obtain ⟨x,hx,hr⟩:=hs k0 s0 a1 h0
  rw [BO,hx]
  cases x with
  | inl s'=>exact ih (n - (k0 + 1)) (by have:=hr.1; omega) (k0:=k0 + 1) (by have:=hr.1; omega) hr.2 rfl
  | inr o=>exact ⟨o,rfl,hr⟩
def Asc (s:List Int):Prop:=∀ k:Nat,k + 1 < s.length→idx s (k:Int) < idx s ((k + 1:Nat):Int)
instance (s:List Int):Decidable (Asc s):=by
 unfold Asc;exact decidable_of_iff (∀ k,k < s.length→k + 1 < s.length→idx s (k:Int) < idx s ((k + 1:Nat):Int)) ⟨fun h k hk=>h k (by omega) hk,fun h k _ hk=>h k hk⟩
theorem kQ {s:List Int} {k:Nat} (h:k < s.length):idx s (k:Int)=s[k]:=dK rfl h
theorem Dq {s:List Int}:Asc s↔s.Pairwise (· < ·):=by
 rw [List.pairwise_iff_getElem]
 constructor
 ·intro h i j hi hj hij
  induction j with
  | zero=>omega
  | succ j ih =>
   have h1:=h j hj
   rw [kQ (by omega),kQ hj] at h1
   rcases Nat.lt_or_ge i j with h2 | h2
   ·exact Int.lt_trans (ih (by omega) h2) h1
   ·have:i=j:=by omega
    subst this;exact h1
 ·intro h k hk
  rw [kQ (by omega),kQ hk]
  exact h k (k + 1) (by omega) hk (by omega)
def SOk (t:Int) (s:List Int):Bool:=(t == 1 && decide (s.length≤1)) || (t == 2 && decide (s.length≤64)) || (t == 3 && decide (Asc s) && decide (s.length≤64)) || (t == 4 && s.length == 1)
def chk (t:Int) (s:List Int):Int:=if 1≤t∧t≤4 then (if SOk t s then 0 else 80) else 1
theorem pM {k:Nat} (h:k < 2 ^ 62) (h1:1≤k):w64 ((k:Int) - 1)=((k - 1:Nat):Int):=by
 rw [pQ (by omega) (by omega)]; omega
theorem II {s:List Int} (hs:s.length < 2 ^ 62):jh () s=some (decide (Asc s) && decide (s.length≤64)):=by
 unfold jh;refine eO.1 ?_;refine bX (k0:=1) (s.length + 1) (fun k x=>x=(k:Int)∧1≤k∧∀ j:Nat,j + 1 < k→j + 1 < s.length→idx s (j:Int) < idx s ((j + 1:Nat):Int)) (by omega) ⟨rfl,Nat.le_refl _,fun j h=>by omega⟩ ?_
 rintro k x hk ⟨rfl,a1,hJ⟩;unfold uF;refine eP (fun h => ?_) (fun h => ?_)
 ·have h:(k:Int) < s.length:=of_decide_eq_true h;have e:=pM (k:=k) (by omega) a1;refine aj (by rw [e]; omega) (aj (by omega) (eP (fun h2 => ?_) (fun h2 => ?_)))
  ·have h2:idx s (k:Int)≤idx s (w64 ((k:Int) - 1)):=of_decide_eq_true h2
   rw [e] at h2
   refine aD (ag ?_)
   show false=_
   have hn:¬ Asc s:=by
    intro hA;have:=hA (k - 1) (by omega)
    rw [show k - 1 + 1=k by omega] at this
    omega
   simp [hn]
  ·have h2:¬ idx s (k:Int)≤idx s (w64 ((k:Int) - 1)):=of_decide_eq_false h2
   rw [e] at h2
   refine ⟨_,rfl,by omega,aZ (by omega),by omega,fun j hj hl => ?_⟩
   rcases Nat.lt_or_ge (j + 1) k with h3 | h3
   ·exact hJ j h3 hl
   ·have:j=k - 1:=by omega
    subst this
    rw [show k - 1 + 1=k by omega]
    omega
 ·have h:¬ (k:Int) < s.length:=of_decide_eq_false h;refine aD (ag ?_)
  show decide ((s.length:Int)≤64)=_
  have hA:Asc s:=fun j hj=>hJ j (by omega) hj
  simp only [hA,decide_true,Bool.true_and]
  congr 1
  exact propext ⟨fun h=>by omega,fun h=>by omega⟩
theorem Kq {t:Int} {s:List Int} (h:1≤t∧t≤4):chk t s=if SOk t s then 0 else 80:=if_pos h
theorem four {t:Int} (h:1≤t∧t≤4):t=1∨t=2∨t=3∨t=4:=by omega
theorem VJ {s:List Int} {n:Nat}:decide ((s.length:Int)≤(n:Int))=decide (s.length≤n):=by
 congr 1
 exact propext ⟨fun h=>by omega,fun h=>by omega⟩
theorem Lc {t:Int} (h:¬ (1≤t∧t≤4)):nG t=some (-1):=by
 have e1:(t == 1)=false:=by rw [beq_eq_false_iff_ne]; omega
 have e2:(t == 2)=false:=by rw [beq_eq_false_iff_ne]; omega
 have e3:(t == 3)=false:=by rw [beq_eq_false_iff_ne]; omega
 have e4:(t == 4)=false:=by rw [beq_eq_false_iff_ne]; omega
 simp [nG,e1,e2,e3,e4]
theorem Gc (t:Int) {s:List Int} (hs:s.length < 2 ^ 62):nI t s=some (chk t s):=by
 by_cases ht:1≤t∧t≤4
 ·rw [Kq ht]
  rcases four ht with rfl | rfl | rfl | rfl
  ·have:=VJ (s:=s) (n:=1)
   simp only [Int.cast_ofNat_Int] at this
   simp [nI,nG,nH,SOk]
   by_cases h:s.length≤1
   ·have h':(s.length:Int)≤1:=by omega
    simp [h,h']
   ·have h':¬ (s.length:Int)≤1:=by omega
    simp [h,h']
  ·simp [nI,nG,sS,SOk]
   by_cases h:s.length≤64
   ·have h':(s.length:Int)≤64:=by omega
    simp [h,h']
   ·have h':¬ (s.length:Int)≤64:=by omega
    simp [h,h']
  ·simp [nI,nG,II hs,SOk]
   by_cases h:Asc s <;> by_cases h':s.length≤64 <;> simp [h,h']
  ·simp [nI,nG,oF,SOk]
   by_cases h:s.length=1
   ·have h':(s.length:Int)=1:=by omega
    simp [h,h']
   ·have h':((s.length:Int) == 1)=false:=by rw [beq_eq_false_iff_ne]; omega
    simp [h,h']
 ·rw [chk,if_neg ht]
  simp [nI,Lc ht]
theorem Ld {s:List Int} (hs:s.length < 2 ^ 62):iter (nP s) (decide ((s.length:Int)≤64),1)=some (if decide (Asc s) && decide (s.length≤64) then 0 else 80):=by
 refine eO.1 ?_;refine bX (k0:=1) (s.length + 1) (fun k x=>x.2=(k:Int)∧1≤k∧(x.1=true↔s.length≤64∧∀ j:Nat,j + 1 < k→j + 1 < s.length→idx s (j:Int) < idx s ((j + 1:Nat):Int))) (by omega)
  ⟨rfl,Nat.le_refl _,⟨fun h=>⟨by have:=of_decide_eq_true h; omega,fun j hj=>by omega⟩,fun h=>decide_eq_true (by omega)⟩⟩ ?_
 rintro k ⟨b,x⟩ hk ⟨hx,a1,hJ⟩;have hx:x=(k:Int):=hx;subst hx;unfold nP;refine eP (fun h => ?_) (fun h => ?_)
 ·have h:(k:Int) < s.length:=of_decide_eq_true h;have e:=pM (k:=k) (by omega) a1;refine eP (fun hb => ?_) (fun hb => ?_)
  ·have hb':=hJ.1 hb;refine aj (by rw [e]; omega) (aj (by omega) ⟨_,rfl,by omega,aZ (by omega),by omega,?_⟩)
   show decide _=true↔_
   rw [e,decide_eq_true_iff]
   constructor
   ·intro h2;refine ⟨hb'.1,fun j hj hl => ?_⟩;rcases Nat.lt_or_ge (j + 1) k with h3 | h3
    ·exact hb'.2 j h3 hl
    ·have:j=k - 1:=by omega
     subst this
     rw [show k - 1 + 1=k by omega]
     omega
   ·rintro ⟨_,h2⟩;have:=h2 (k - 1) (by omega) (by omega)
    rw [show k - 1 + 1=k by omega] at this
    omega
  ·refine ⟨_,rfl,by omega,aZ (by omega),by omega,?_⟩
   show false=true↔_
   constructor
   ·intro h; cases h
   ·rintro ⟨h1,h2⟩;have:=hJ.2 ⟨h1,fun j hj=>h2 j (by omega)⟩;have hb:b=false:=hb
    rw [hb] at this
    cases this
 ·have h:¬ (k:Int) < s.length:=of_decide_eq_false h;refine aD ?_;have hb:b=(decide (Asc s) && decide (s.length≤64)):=by
   rw [Bool.eq_iff_iff,hJ]
   simp only [Bool.and_eq_true,decide_eq_true_eq]
   exact ⟨fun h=>⟨fun j hj=>h.2 j (by omega) hj,h.1⟩,fun h=>⟨h.2,fun j _ hj=>h.1 j hj⟩⟩
  unfold fT
  rw [← hb]
  cases b
  ·exact ⟨_,rfl,rfl⟩
  ·exact ⟨_,rfl,rfl⟩
theorem IJ (t:Int) {s:List Int} (hs:s.length < 2 ^ 62):aU t s=some (chk t s):=by
 by_cases ht:1≤t∧t≤4
 ·rw [Kq ht]
  rcases four ht with rfl | rfl | rfl | rfl
  ·simp [aU,fU,fT,SOk]
   by_cases h:s.length≤1
   ·have h':(s.length:Int)≤1:=by omega
    simp [h,h']
   ·have h':¬ (s.length:Int)≤1:=by omega
    simp [h,h']
  ·simp [aU,fU,fT,SOk]
   by_cases h:s.length≤64
   ·have h':(s.length:Int)≤64:=by omega
    simp [h,h']
   ·have h':¬ (s.length:Int)≤64:=by omega
    simp [h,h']
  ·simp [aU,fU]
   have:=Ld hs
   simp at this
   rw [this]
   simp [SOk]
  ·simp [aU,fU,fT,SOk]
   by_cases h:s.length=1
   ·have h':(s.length:Int)=1:=by omega
    simp [h,h']
   ·have h':((s.length:Int) == 1)=false:=by rw [beq_eq_false_iff_ne]; omega
    simp [h,h']
 ·rw [chk,if_neg ht]
  by_cases h1:t < 1
  ·simp [aU,fU,h1]
  ·have:t > 4:=by omega
   simp [aU,fU,h1,this]
def lb (s:List Int) (a:Int):Nat:=s.findIdx (fun x=>decide (a≤x))
def hit (s:List Int) (a:Int):Bool:=decide (lb s a < s.length) && (idx s (lb s a:Int) == a)
def ins (s:List Int) (a:Int):List Int:=s.take (lb s a)++((if hit s a then [] else [a])++s.drop (lb s a))
theorem RG (s:List Int) (a:Int):lb s a≤s.length:=List.findIdx_le_length
theorem Vr {s:List Int} {a:Int} {k:Nat} (h:k < lb s a):idx s (k:Int) < a:=by
 have h1:k < s.length:=Nat.lt_of_lt_of_le h (RG s a)
 rw [kQ h1]
 have:=List.not_of_lt_findIdx (p:=fun x=>decide (a≤x)) (xs:=s) h
 simpa using this
theorem Vs {s:List Int} {a:Int} (h:lb s a < s.length):a≤idx s (lb s a:Int):=by
 rw [kQ h]
 have:=List.findIdx_getElem (p:=fun x=>decide (a≤x)) (xs:=s) (w:=h);exact of_decide_eq_true this
theorem UO {s:List Int} {a:Int} {i:Nat} (hi:i≤s.length) (h1:∀ k:Nat,k < i→idx s (k:Int) < a) (h2:i < s.length→a≤idx s (i:Int)):lb s a=i:=by
 rcases Nat.lt_trichotomy (lb s a) i with h | h | h
 ·have:=Vs (s:=s) (a:=a) (by omega);have:=h1 _ h
  omega
 ·exact h
 ·have h3:=Vr h;have:=h2 (by have:=RG s a; omega)
  omega
theorem TV {i j:Nat} (hi:i < 2 ^ 62) (hj:j < 2 ^ 62):w64 (gp .u64 (IntKind.wrap .u64 (w64 ((i:Int) + (j:Int)))) (1:Int))=(((i + j) / 2:Nat):Int):=by
 have e1:w64 ((i:Int) + (j:Int))=((i + j:Nat):Int):=by rw [pQ (by omega) (by omega)]; omega
 rw [e1,wrap_u64 (by omega),Nq (n:=1) (i:=(1:Int)) rfl (by omega),pQ (by omega) (by omega)]
 simp [Nat.shiftRight_eq_div_pow]
theorem PW (a b:Int):rW a b=some (decide (a < b)):=by simp [rW,qC]
theorem MH {s:List Int} (a:Int) (hA:Asc s) (hs:s.length < 2 ^ 62):df s a=some ((lb s a:Int),hit s a):=by
 unfold df;refine eO.1 ?_;have hP:=List.pairwise_iff_getElem.1 (Dq.1 hA);have hmono:∀ p q:Nat,p≤q→q < s.length→idx s (p:Int)≤idx s (q:Int):=by
  intro p q hpq hq;rcases Nat.lt_or_ge p q with h | h
  ·rw [kQ (by omega),kQ hq]
   exact Int.le_of_lt (hP p q (by omega) hq h)
  ·have:p=q:=by omega
   subst this;exact Int.le_refl _
 refine Jr (fun x:Int×Int=>∃ i j:Nat,x=((i:Int),(j:Int))∧i≤j∧j≤s.length∧(∀ k:Nat,k < i→idx s (k:Int) < a)∧(j < s.length→a≤idx s (j:Int))) (fun x=>x.2.toNat - x.1.toNat)
  ⟨0,s.length,rfl,by omega,by omega,fun k h=>by omega,fun h=>by omega⟩ ?_
 rintro _ ⟨i,j,rfl,hij,hj,h1,h2⟩;unfold lD;refine eP (fun h => ?_) (fun h => ?_)
 ·have h:(i:Int) < j:=of_decide_eq_true h;have e:=TV (i:=i) (j:=j) (by omega) (by omega)
  rw [e]
  refine aj (by decide) (aj (by omega) ?_)
  rw [PW]
  show Tri (bif decide _ then _ else _) _
  have hm:(i + j) / 2 < j:=by omega
  have a1:i≤(i + j) / 2:=by omega
  generalize (i + j) / 2=m at hm a1;refine eP (fun h3 => ?_) (fun h3 => ?_)
  ·have h3:idx s (m:Int) < a:=of_decide_eq_true h3;refine ⟨_,rfl,⟨m + 1,j,by rw [aZ (by omega)],by omega,hj,fun k hk => ?_,h2⟩,?_⟩
   ·exact Int.lt_of_le_of_lt (hmono k m (by omega) (by omega)) h3
   ·rw [aZ (by omega)]; simp only [Int.toNat_natCast]; omega
  ·have h3:¬ idx s (m:Int) < a:=of_decide_eq_false h3;refine ⟨_,rfl,⟨i,m,rfl,a1,by omega,h1,fun _=>by omega⟩,?_⟩
   simp only [Int.toNat_natCast]; omega
 ·have h:¬ (i:Int) < j:=of_decide_eq_false h;have hji:j=i:=by omega
  subst hji;have hl:lb s a=j:=UO hj h1 h2;refine eP (fun h3 => ?_) (fun h3 => ?_)
  ·have h3:(j:Int) < s.length:=of_decide_eq_true h3;have hlt:j < s.length:=by omega
   refine aj (by omega) (eP (fun h4 => ?_) (fun h4 => ?_))
   ·refine aD (ag ?_)
    simp [Rnd,hl,hit,hlt,h4]
   ·simp only [mo,Option.bind_some,bne_self_eq_false,cond_false]
    refine aD (ag ?_)
    simp [Rnd,hl,hit,hlt,h4]
  ·have h3:¬ (j:Int) < s.length:=of_decide_eq_false h3;have hlt:¬ j < s.length:=by omega
   refine aD (ag ?_)
   simp [Rnd,hl,hit,hlt]
theorem TW {s:List Int} {a:Int} (hA:Asc s):hit s a=true↔a ∈ s:=by
 unfold hit
 simp only [Bool.and_eq_true,decide_eq_true_eq,beq_iff_eq]
 constructor
 ·rintro ⟨h1,h2⟩
  rw [kQ h1] at h2
  exact h2 ▸ List.getElem_mem h1
 ·intro h;obtain ⟨k,hk,e⟩:=List.getElem_of_mem h;have hP:=List.pairwise_iff_getElem.1 (Dq.1 hA);have:lb s a=k:=by
   refine UO (by omega) (fun j hj => ?_) (fun _ => ?_)
   ·rw [kQ (by omega),← e]; exact hP j k (by omega) hk hj
   ·rw [kQ hk,e]; exact Int.le_refl _
  rw [this]
  exact ⟨hk,by rw [kQ hk,e]⟩
def next (t:Int) (s:List Int) (a:Int):List Int:=if t=1 then [a] else if t=2 then s++[a] else if t=3 then ins s a else [w64 (idx s 0 + a)]
def app (t:Int) (s:List Int) (a:Int):List Int×Int :=
 if chk t s≠0 then ([],chk t s) else if (next t s a).length > 64 then ([],2) else (next t s a,0)
theorem RH {t:Int} {s:List Int} (h:chk t s=0):1≤t∧t≤4∧SOk t s=true:=by
 unfold chk at h
 split at h
 ·rename_i h1
  split at h
  ·exact ⟨h1.1,h1.2,by assumption⟩
  ·cases h
 ·cases h
theorem RI {t:Int} {s:List Int} (h:SOk t s=true):s.length≤64:=by
 simp only [SOk,Bool.or_eq_true,Bool.and_eq_true,decide_eq_true_eq,beq_iff_eq] at h
 omega
theorem UU {s:List Int} (h:SOk 3 s=true):Asc s:=by
 simp [SOk] at h
 exact h.1
theorem ok_one {s:List Int} (h:SOk 4 s=true):s.length=1:=by
 simp [SOk] at h
 exact h
def start (t:Int):List Int×Int:=if 1≤t∧t≤4 then (if t=4 then [0] else [],0) else ([],1)
def step (t:Int) (x:List Int×Int) (a:Int):List Int×Int:=if x.2=0 then app t x.1 a else x
theorem PX {a b:List Int} (ha:a.length < 2 ^ 62):dO a b=some (decide (a=b)):=by
 unfold dO
 by_cases hl:a.length=b.length
 ·have:((a.length:Int) != (b.length:Int))=false:=by simp; omega
  rw [this,cond_false]
  refine eO.1 ?_;refine EB a.length (fun k=>∀ j:Nat,j < k→idx a (j:Int)=idx b (j:Int)) (fun j h=>by omega) (fun k hk hJ => ?_);unfold lu;refine eP (fun h => ?_) (fun h => ?_)
  ·have h:(k:Int) < a.length:=of_decide_eq_true h;refine aj (by omega) (aj (by omega) (eP (fun h2 => ?_) (fun h2 => ?_)))
   ·have h2:idx a (k:Int)≠idx b (k:Int):=by simpa using h2
    refine aD (ag ?_)
    show false=_
    have:a≠b:=fun e=>h2 (by rw [e])
    simp [this]
   ·have h2:idx a (k:Int)=idx b (k:Int):=by simpa using h2
    refine ⟨_,rfl,aZ (by omega),by omega,fun j hj => ?_⟩
    rcases Nat.lt_or_ge j k with h3 | h3
    ·exact hJ j h3
    ·have:j=k:=by omega
     subst this;exact h2
  ·have h:¬ (k:Int) < a.length:=of_decide_eq_false h;refine aD (ag ?_)
   show true=_
   have:a=b:=Np hl (fun j hj=>hJ j (by omega))
   simp [this]
 ·have:((a.length:Int) != (b.length:Int))=true:=by simp; omega
  rw [this,cond_true]
  have:a≠b:=fun e=>hl (by rw [e])
  simp [this]
end Go.Proofs.YtfpeabnehpclnaaGreatT
namespace Go.Proofs.YtfpeabnehpclnaaGreatT
open Go Go.Proofs Go.Proofs.YtfpeabnehpclnaaGreatE
set_option linter.unusedVariables false
set_option linter.unusedSimpArgs false
theorem Lf {s:List Int} (a:Int) (hs:s.length < 2 ^ 62):iO s a=some (decide (a ∈ s)):=by
 unfold iO;refine eO.1 ?_;refine EB s.length (fun k=>∀ j:Nat,j < k→idx s (j:Int)≠a) (fun j h=>by omega) (fun k hk hJ => ?_);unfold vO;refine eP (fun h => ?_) (fun h => ?_)
 ·have h:(k:Int) < s.length:=of_decide_eq_true h;have hks:k < s.length:=by omega
  refine aj (by omega) (eP (fun h2 => ?_) (fun h2 => ?_))
  ·have h2:idx s (k:Int)=a:=by simpa using h2
   refine aD (ag ?_)
   show true=_
   have:a ∈ s:=by rw [← h2,kQ hks]; exact List.getElem_mem _
   simp [this]
  ·have h2:idx s (k:Int)≠a:=by simpa using h2
   refine ⟨_,rfl,aZ (by omega),by omega,fun j hj => ?_⟩
   rcases Nat.lt_or_ge j k with h3 | h3
   ·exact hJ j h3
   ·have:j=k:=by omega
    subst this;exact h2
 ·have h:¬ (k:Int) < s.length:=of_decide_eq_false h;refine aD (ag ?_)
  show false=_
  have:a ∉ s:=by
   intro hm;obtain ⟨j,hj,e⟩:=List.getElem_of_mem hm;exact hJ j (by omega) (by rw [kQ hj,e])
  simp [this]
theorem Ew {a b:List Int} (ha:a.length < 2 ^ 62):gU a b=some (decide (a=b)):=by
 rw [← PX ha]
 rfl
def Fit (s args:List Int):Prop:=∀ k:Nat,k < args.length→idx args (k:Int) ∈ s∧idx args (k:Int) ∉ args.take k
instance (s args:List Int):Decidable (Fit s args):=by unfold Fit; infer_instance
def before (t:Int) (s args:List Int):List Int×Bool :=
 if chk t s≠0∨args=[] then ([],false)
 else if t=1 then ([],decide (s.length=1∧idx s 0=idx args ((args.length - 1:Nat):Int)))
 else if t=2 then (if args.length≤s.length∧s.drop (s.length - args.length)=args then (s.take (s.length - args.length),true) else ([],false))
 else if t=3 then (if Fit s args then (s.filter (fun x=>decide (x ∉ args)),true) else ([],false))
 else ([args.foldl (fun v a=>w64 (v - a)) (idx s 0)],true)
theorem Fa {s args:List Int} (hs:args.length < 2 ^ 62) (v:Int):iter (kK args) (v,0)=some ([args.foldl (fun v a=>w64 (v - a)) v],true):=by
 refine eO.1 ?_;refine yo args.length (fun k x=>x=(args.take k).foldl (fun v a=>w64 (v - a)) v) rfl (fun k x hk hJ => ?_);subst hJ;unfold kK;refine eP (fun h => ?_) (fun h => ?_)
 ·have h:(k:Int) < args.length:=of_decide_eq_true h;have hks:k < args.length:=by omega
  refine aj (by omega) ⟨_,rfl,aZ (by omega),hks,?_⟩
  show _=List.foldl _ _ _
  rw [List.take_add_one,List.getElem?_eq_getElem hks,List.foldl_append,kQ hks]
  rfl
 ·have h:¬ (k:Int) < args.length:=of_decide_eq_false h;refine aD (ag ?_)
  show ([_],true)=_
  rw [List.take_of_length_le (by omega)]
theorem PY {s args:List Int} (hs:s.length < 2 ^ 43) (hm:args.length≤s.length):iter (mQ s args) 0=some (if s.drop (s.length - args.length)=args then (s.take (s.length - args.length),true) else ([],false)):=by
 have e1:w64 ((s.length:Int) - (args.length:Int))=((s.length - args.length:Nat):Int):=by rw [pQ (by omega) (by omega)]; omega
 refine eO.1 ?_;refine EB args.length (fun k=>∀ j:Nat,j < k→idx s ((s.length - args.length + j:Nat):Int)=idx args (j:Int)) (fun j h=>by omega) (fun k hk hJ => ?_);unfold mQ;refine eP (fun h => ?_) (fun h => ?_)
 ·have h:(k:Int) < args.length:=of_decide_eq_true h;have hks:k < args.length:=by omega
  have e2:w64 (w64 ((s.length:Int) - (args.length:Int)) + (k:Int))=((s.length - args.length + k:Nat):Int):=by rw [e1,pQ (by omega) (by omega)]; omega
  rw [e2]
  refine aj (by omega) (aj (by omega) (eP (fun h2 => ?_) (fun h2 => ?_)))
  ·have h2:idx s ((s.length - args.length + k:Nat):Int)≠idx args (k:Int):=by simpa using h2
   refine aD (ag ?_)
   show ([],false)=_
   have:¬ s.drop (s.length - args.length)=args:=by
    intro e
    apply h2
    have h3:(s.drop (s.length - args.length))[k]? = args[k]? := by rw [e]
    rw [List.getElem?_drop,List.getElem?_eq_getElem (by omega),List.getElem?_eq_getElem hks] at h3
    rw [kQ (by omega),kQ hks]
    exact Option.some.inj h3
   rw [if_neg this]
  ·have h2:idx s ((s.length - args.length + k:Nat):Int)=idx args (k:Int):=by simpa using h2
   refine ⟨_,rfl,aZ (by omega),by omega,fun j hj => ?_⟩
   rcases Nat.lt_or_ge j k with h3 | h3
   ·exact hJ j h3
   ·have:j=k:=by omega
    subst this;exact h2
 ·have h:¬ (k:Int) < args.length:=of_decide_eq_false h;have hd:s.drop (s.length - args.length)=args:=by
   refine List.ext_getElem (by simp; omega) (fun j h1 h2 => ?_);have:=hJ j (by omega)
   rw [kQ (by omega),kQ h2] at this
   rw [List.getElem_drop]
   exact this
  rw [e1]
  have hsl:jW s (0:Int) ((s.length - args.length:Nat):Int)=s.take (s.length - args.length):=by simp [jW]
  rw [hsl]
  refine aj (by omega) (aj ⟨by simp; omega,by simp; omega⟩ (aD (ag ?_)))
  show ([]++s.take _,true)=_
  rw [if_pos hd,List.nil_append]
theorem Fb {s args:List Int} (hs:s.length < 2 ^ 43) (ha:args.length < 2 ^ 62):fB () s args=some (if args.length≤s.length∧s.drop (s.length - args.length)=args then (s.take (s.length - args.length),true) else ([],false)):=by
 unfold fB
 by_cases hm:args.length≤s.length
 ·have e1:w64 ((s.length:Int) - (args.length:Int))=((s.length - args.length:Nat):Int):=by rw [pQ (by omega) (by omega)]; omega
  have hlt:decide (w64 ((s.length:Int) - (args.length:Int)) < 0)=false:=decide_eq_false (by rw [e1]; omega)
  rw [hlt,cond_false,lM _ (by rw [e1]; omega),e1]
  have hsl:jW s ((s.length - args.length:Nat):Int) (s.length:Int)=s.drop (s.length - args.length):=by simp [jW]
  have a1:jW s (0:Int) ((s.length - args.length:Nat):Int)=s.take (s.length - args.length):=by simp [jW]
  rw [hsl,Ew (by simp; omega)]
  simp only [Option.bind_some]
  unfold kz
  rw [e1,a1,lM _ (by omega)]
  have hc:iH (s.take (s.length - args.length))=some (s.take (s.length - args.length)):=lM _ (by simp; omega)
  rw [hc]
  by_cases he:s.drop (s.length - args.length)=args
  ·simp [he,hm]
  ·simp [he]
 ·have hlt:decide (w64 ((s.length:Int) - (args.length:Int)) < 0)=true:=decide_eq_true (by rw [pQ (by omega) (by omega)]; omega)
  rw [hlt,cond_true,kz,cond_true,if_neg (fun h=>hm h.1)]
theorem NT {s:List Int} (p:Int→Bool) (h:Asc s):Asc (s.filter p):=Dq.2 ((Dq.1 h).filter p)
theorem Kr {args:List Int} {k:Nat} (h:k < args.length):args.take (k + 1)=args.take k++[idx args (k:Int)]:=by
 rw [List.take_add_one,List.getElem?_eq_getElem h,kQ h]; rfl
theorem MI {s args:List Int} {k:Nat} (h:k < args.length):s.filter (fun x=>decide (x ∉ args.take (k + 1)))=(s.filter (fun x=>decide (x ∉ args.take k))).filter (fun x=>decide (x≠idx args (k:Int))):=by
 rw [List.filter_filter]
 apply List.filter_congr
 intro x _
 rw [Kr h]
 simp only [List.mem_append,List.mem_singleton,not_or]
 rw [Bool.eq_iff_iff]
 simp only [decide_eq_true_eq,Bool.and_eq_true]
 exact ⟨fun h=>⟨h.2,h.1⟩,fun h=>⟨h.2,h.1⟩⟩
theorem NU {l:List Int} {a:Int} (hA:Asc l) (h:hit l a=true):l.take (lb l a)++l.drop (lb l a + 1)=l.filter (fun x=>decide (x≠a)):=by
 have hP:=List.pairwise_iff_getElem.1 (Dq.1 hA)
 simp only [hit,Bool.and_eq_true,decide_eq_true_eq,beq_iff_eq] at h
 obtain ⟨h1,h2⟩:=h
 rw [kQ h1] at h2
 generalize lb l a=i at h1 h2
 conv=>rhs; rw [← List.take_append_drop i l,List.drop_eq_getElem_cons h1,List.filter_append,List.filter_cons,h2]
 rw [if_neg (by simp)]
 congr 1
 ·symm
  rw [List.filter_eq_self]
  intro x hx;obtain ⟨j,hj,rfl⟩:=List.getElem_of_mem hx;have hj':j < i:=by simp at hj; omega
  have:=hP j i (by omega) h1 hj'
  rw [List.getElem_take,decide_eq_true_eq]
  omega
 ·symm
  rw [List.filter_eq_self]
  intro x hx;obtain ⟨j,hj,rfl⟩:=List.getElem_of_mem hx;have hj':i + 1 + j < l.length:=by simp at hj; omega
  have:=hP i (i + 1 + j) h1 hj' (by omega)
  rw [List.getElem_drop,decide_eq_true_eq]
  omega
theorem Gd {s args:List Int} (hA:Asc s) (hs:s.length < 2 ^ 43) (ha:args.length < 2 ^ 62):gL () s args=some (if Fit s args then (s.filter (fun x=>decide (x ∉ args)),true) else ([],false)):=by
 unfold gL;have hc:iH s=some s:=lM _ (by omega)
 rw [hc]
 refine eO.1 ?_
 show Tri (iter (nJ args) (s,0)) _
 refine yo args.length (fun k l=>l=s.filter (fun x=>decide (x ∉ args.take k))∧∀ j:Nat,j < k→idx args (j:Int) ∈ s∧idx args (j:Int) ∉ args.take j) ⟨by simp; exact (List.filter_eq_self.2 (fun _ _=>rfl)).symm,fun j h=>by omega⟩ (fun k l hk hJ => ?_)
 obtain ⟨hl,hJ⟩:=hJ;have hAl:Asc l:=by rw [hl]; exact NT _ hA
 have hll:l.length≤s.length:=by rw [hl]; exact List.length_filter_le _ _
 unfold nJ;refine eP (fun h => ?_) (fun h => ?_)
 ·have h:(k:Int) < args.length:=of_decide_eq_true h;have hks:k < args.length:=by omega
  refine aj (by omega) ?_
  rw [MH _ hAl (by omega)]
  have hm:=TW (s:=l) (a:=idx args (k:Int)) hAl
  show Tri (bif !hit l (idx args (k:Int)) then _ else _) _
  cases hh:hit l (idx args (k:Int))
  ·simp only [Bool.not_false,cond_true]
   refine aD (ag ?_)
   show ([],false)=_
   have hn:¬ Fit s args:=by
    intro hF;have h1:=hF k hks;have:idx args (k:Int) ∈ l:=by rw [hl,List.mem_filter]; exact ⟨h1.1,by simpa using h1.2⟩
    rw [hm.2 this] at hh
    cases hh
   rw [if_neg hn]
  ·simp only [Bool.not_true,cond_false]
   have hi:=RG l (idx args (k:Int));have hlt:lb l (idx args (k:Int)) < l.length:=by
    simp only [hit,Bool.and_eq_true,decide_eq_true_eq] at hh
    exact hh.1
   have hd:lH l (lb l (idx args (k:Int)):Int) (w64 ((lb l (idx args (k:Int)):Int) + 1))=some (l.filter (fun x=>decide (x≠idx args (k:Int)))):=by
    unfold lH
    rw [aZ (by omega),lM _ ⟨by omega,by omega,by omega⟩,Int.toNat_natCast,Int.toNat_natCast,NU hAl hh]
   rw [hd]
   refine ⟨_,rfl,aZ (by omega),hks,?_,fun j hj => ?_⟩
   ·rw [MI hks,← hl]
   ·rcases Nat.lt_or_ge j k with h3 | h3
    ·exact hJ j h3
    ·have:j=k:=by omega
     subst this;have hmem:=hm.1 hh
     rw [hl,List.mem_filter] at hmem
     exact ⟨hmem.1,by simpa using hmem.2⟩
 ·have h:¬ (k:Int) < args.length:=of_decide_eq_false h;have hF:Fit s args:=fun j hj=>hJ j (by omega);refine aD (ag ?_)
  show (l,true)=_
  rw [if_pos hF,hl,List.take_of_length_le (by omega)]
theorem Ho {s args:List Int} (hs:s.length < 2 ^ 43) (ha:args.length < 2 ^ 62):iter (mR s args) ([],0)=some (.inr (s.filter (fun x=>decide (x ∉ args)),true)):=by
 refine eO.1 ?_;refine yo s.length (fun k l=>l=(s.take k).filter (fun x=>decide (x ∉ args))) (by simp) (fun k l hk hJ => ?_);have hll:l.length≤k:=by rw [hJ]; exact Nat.le_trans (List.length_filter_le _ _) (by simp; omega)
 unfold mR;refine eP (fun h => ?_) (fun h => ?_)
 ·have h:(k:Int) < s.length:=of_decide_eq_true h;have hks:k < s.length:=by omega
  refine aj (by omega) ?_
  rw [Lf _ ha]
  show Tri (bif !decide _ then _ else _) _
  have hn:(s.take (k + 1)).filter (fun x=>decide (x ∉ args))=l++(if idx s (k:Int) ∈ args then [] else [idx s (k:Int)]):=by
   rw [Kr hks,List.filter_append,← hJ]
   congr 1
   by_cases hm:idx s (k:Int) ∈ args <;> simp [hm]
  by_cases hm:idx s (k:Int) ∈ args
  ·simp only [hm,decide_true,Bool.not_true,cond_false]
   refine ⟨_,rfl,aZ (by omega),hks,?_⟩
   show l=_
   rw [hn,if_pos hm,List.append_nil]
  ·simp only [hm,decide_false,Bool.not_false,cond_true]
   refine aj ⟨by omega,by omega⟩ ⟨_,rfl,aZ (by omega),hks,?_⟩
   show l++[idx s (k:Int)]=_
   rw [hn,if_neg hm]
 ·have h:¬ (k:Int) < s.length:=of_decide_eq_false h;refine aD (aD (ag ?_))
  show Sum.inr (l,true)=_
  rw [hJ,List.take_of_length_le (by omega)]
theorem Lg {s args:List Int} (hs:s.length < 2 ^ 43) (ha:args.length < 2 ^ 62):iter (mU s args) 0=some (if Fit s args then (s.filter (fun x=>decide (x ∉ args)),true) else ([],false)):=by
 refine eO.1 ?_;refine EB args.length (fun k=>∀ j:Nat,j < k→idx args (j:Int) ∈ s∧idx args (j:Int) ∉ args.take j) (fun j h=>by omega) (fun k hk hJ => ?_);unfold mU;refine eP (fun h => ?_) (fun h => ?_)
 ·have h:(k:Int) < args.length:=of_decide_eq_true h;have hks:k < args.length:=by omega
  refine aj (by omega) ?_
  rw [Lf _ (by omega)]
  have hfail:¬ (idx args (k:Int) ∈ s∧idx args (k:Int) ∉ args.take k)→Tri (kD (k:Int) true) (Up args.length k (fun k=>∀ j:Nat,j < k→idx args (j:Int) ∈ s∧idx args (j:Int) ∉ args.take j) (fun r=>r=(if Fit s args then (s.filter (fun x=>decide (x ∉ args)),true) else ([],false)))):=by
   intro hn;refine aD (ag ?_)
   show ([],false)=_
   rw [if_neg (fun hF=>hn (hF k hks))]
  have hsl:jW args (0:Int) (k:Int)=args.take k:=by simp [jW]
  show Tri (bif !decide _ then _ else _) _
  by_cases hm:idx args (k:Int) ∈ s
  ·simp only [hm,decide_true,Bool.not_true,cond_false]
   refine aj (by omega) ?_
   rw [hsl,Lf _ (by simp; omega)]
   show Tri (kD (k:Int) (decide _)) _
   by_cases a1:idx args (k:Int) ∈ args.take k
   ·simp only [a1,decide_true]
    exact hfail (fun h=>h.2 a1)
   ·simp only [a1,decide_false]
    refine ⟨_,rfl,aZ (by omega),hks,fun j hj => ?_⟩;rcases Nat.lt_or_ge j k with h3 | h3
    ·exact hJ j h3
    ·have:j=k:=by omega
     subst this;exact ⟨hm,a1⟩
  ·simp only [hm,decide_false,Bool.not_false,cond_true]
   exact hfail (fun h=>hm h.1)
 ·have h:¬ (k:Int) < args.length:=of_decide_eq_false h;have hF:Fit s args:=fun j hj=>hJ j (by omega)
  rw [Ho hs ha]
  rw [if_pos hF]
  exact ⟨_,rfl,rfl⟩
theorem MJ {s args:List Int} (ha:args.length < 2 ^ 62) (h0:args≠[]):jH () s args=some ([],decide (s.length=1∧idx s 0=idx args ((args.length - 1:Nat):Int))):=by
 unfold jH;have hp:0 < args.length:=List.length_pos_iff.2 h0;have e1:w64 ((args.length:Int) - 1)=((args.length - 1:Nat):Int):=pM ha hp
 rw [e1]
 by_cases h1:s.length=1
 ·have h2:((s.length:Int) == 1)=true:=by rw [beq_iff_eq]; omega
  rw [h2,cond_true,lM _ (by omega),lM _ (by omega)]
  simp [h1]
  rw [Bool.eq_iff_iff]; simp
 ·have h2:((s.length:Int) == 1)=false:=by rw [beq_eq_false_iff_ne]; omega
  rw [h2,cond_false]
  simp [h1]
theorem Fe (t:Int) {s args:List Int} (hs:s.length < 2 ^ 62) (ha:args.length < 2 ^ 62):ji t s args=some (before t s args):=by
 unfold ji before
 rw [Gc t hs]
 by_cases hc:chk t s=0
 ·obtain ⟨h1,h2,h3⟩:=RH hc;have hl:=RI h3
  simp only [hc,Option.bind_some,bne_self_eq_false,cond_false,ne_eq,not_true,false_or]
  by_cases h0:args=[]
  ·subst h0
   simp [nD]
  ·have hp:((args.length:Int) == 0)=false:=by
    have:0 < args.length:=List.length_pos_iff.2 h0
    rw [beq_eq_false_iff_ne]; omega
   rw [hp,if_neg h0]
   unfold nD;rcases four ⟨h1,h2⟩ with rfl | rfl | rfl | rfl
   ·simp [nG,MJ ha h0]
   ·simp [nG,Fb (s:=s) (by omega) ha]
   ·simp [nG,Gd (UU h3) (by omega) ha]
   ·have:=ok_one h3
    simp [nG,fC]
    rw [lM _ (by omega),Fa (s:=s) ha]
    simp
 ·have:(chk t s != 0)=true:=by simpa using hc
  simp [hc,this,nD]
theorem Hq (t:Int) {s args:List Int} (hs:s.length < 2 ^ 62) (ha:args.length < 2 ^ 62):aQ t s args=some (before t s args):=by
 unfold aQ before
 rw [IJ t hs]
 by_cases hc:chk t s=0
 ·obtain ⟨h1,h2,h3⟩:=RH hc;have hl:=RI h3
  simp only [hc,Option.bind_some,bne_self_eq_false,cond_false,ne_eq,not_true,false_or]
  by_cases h0:args=[]
  ·subst h0
   simp [jc]
  ·have hp:((args.length:Int) == 0)=false:=by
    have:0 < args.length:=List.length_pos_iff.2 h0
    rw [beq_eq_false_iff_ne]; omega
   rw [hp,if_neg h0]
   unfold jc;rcases four ⟨h1,h2⟩ with rfl | rfl | rfl | rfl
   ·simp only [cond_false,show ((1:Int) == 1)=true from rfl,cond_true,if_true]
    exact MJ ha h0
   ·by_cases hm:args.length≤s.length
    ·have:¬ (args.length:Int) > s.length:=by omega
     simp [this,PY (s:=s) (by omega) hm,hm]
    ·have:(args.length:Int) > s.length:=by omega
     simp [this,hm]
   ·simp [Lg (s:=s) (by omega) ha]
   ·have:=ok_one h3
    simp
    rw [lM _ (by omega)]
    exact Fa (s:=s) ha _
 ·have:(chk t s != 0)=true:=by simpa using hc
  simp [hc,this,jc]
theorem Lh (t:Int) (s args:List Int):(before t s args).1.length≤s.length + 1:=by
 unfold before
 split
 ·simp
 ·split
  ·simp
  ·split
   ·split <;> simp <;> omega
   ·split
    ·split
     ·exact Nat.le_trans (List.length_filter_le _ _) (by omega)
     ·simp
    ·simp
end Go.Proofs.YtfpeabnehpclnaaGreatT
namespace Go.Proofs.YtfpeabnehpclnaaGreatT
open Go Go.Proofs Go.Proofs.YtfpeabnehpclnaaGreatE
set_option linter.unusedVariables false
set_option linter.unusedSimpArgs false
def xP (c:Call) (k:Int):Prop :=
 1≤c.Kind∧c.Kind≤8∧1≤c.Key.size∧c.Key.size≤32 ∧
  (c.Kind≤4→c.Got=false∧c.Vals.length=0∧(c.Kind=4 → -1048576≤c.Arg∧c.Arg≤1048576)) ∧
  (5≤c.Kind→c.Arg=0∧(c.Got=true↔k=1)∧(c.Got=false→c.Vals.length=0) ∧
   (c.Got=true→(c.Kind=5→c.Vals.length≤1)∧(c.Kind=8→c.Vals.length=1)∧(c.Kind=7→Asc c.Vals)∧c.Vals.length≤64))
theorem Kt {k:ByteArray}:k=(⟨#[]⟩:ByteArray)↔k.size=0:=by
 constructor
 ·rintro rfl; rfl
 ·intro h;obtain ⟨a⟩:=k;have:a = #[]:=Array.eq_empty_of_size_eq_zero h
  rw [this]
theorem RJ {c:Call} (hs:c.Vals.length < 2 ^ 61):Tri (iter (xg c) 1) (fun r=>r=true↔(c.Kind=7→Asc c.Vals)):=by
 refine bX (k0:=1) (c.Vals.length + 1) (fun k x=>x=(k:Int)∧1≤k∧∀ j:Nat,j + 1 < k→j + 1 < c.Vals.length→idx c.Vals (j:Int) < idx c.Vals ((j + 1:Nat):Int)) (by omega) ⟨rfl,Nat.le_refl _,fun j h=>by omega⟩ ?_
 rintro k x hk ⟨rfl,a1,hJ⟩;unfold xg xe
 dsimp only
 have e:=pM (k:=k) (by omega) a1;have e2:=aZ (k:=k) (by omega)
 rw [e,e2]
 repeat' (first | contradiction | with_reducible refine aA (fun hq => ?_) (fun hq => ?_) | with_reducible refine aj (by first | omega | grind [cZ]) ?_ | with_reducible refine aD ?_ | with_reducible refine dB ?_ | with_reducible refine dS ?_ | with_reducible refine dU ?_ | with_reducible refine dV ?_ | with_reducible refine ag ?_)
 ·show false=true↔_
  have hl:¬ Asc c.Vals:=by
   intro hA;have:=hA (k - 1) (by omega)
   rw [show k - 1 + 1=k by omega] at this
   omega
  grind
 ·refine ⟨by omega,rfl,by omega,fun j hj hl => ?_⟩
  rcases Nat.lt_or_ge (j + 1) k with h3 | h3
  ·exact hJ j h3 hl
  ·have:j=k - 1:=by omega
   subst this
   rw [show k - 1 + 1=k by omega]
   omega
 ·show true=true↔_
  have hl:Asc c.Vals:=fun j hj=>hJ j (by omega) hj
  grind
 ·show true=true↔_
  grind
theorem Hr (c:Call) (k:Int) (hs:c.Vals.length < 2 ^ 61):Tri (dH c k) (fun r=>r=true↔xP c k):=by
 unfold dH qI xk xh Bg xP
 simp only [cond_true,cond_false]
 have he:=Kt (k:=c.Key)
 repeat' (first | contradiction | with_reducible refine aA (fun hq => ?_) (fun hq => ?_) | with_reducible refine aj (by first | omega | grind [cZ]) ?_ | with_reducible refine aD ?_ | with_reducible refine dB ?_ | with_reducible refine dS ?_ | with_reducible refine dU ?_ | with_reducible refine dV ?_ | with_reducible refine ag ?_ | refine ib (RJ hs) (fun r hr => ?_))
 all_goals grind
theorem TY {c:Call} (hs:c.Vals.length < 2 ^ 61) (hc:c.Kind=7):Tri (iter (oI c) 1) (fun r=>r=true↔(Asc c.Vals∧c.Vals.length≤64)):=by
 refine bX (k0:=1) (c.Vals.length + 1) (fun k x=>x=(k:Int)∧1≤k∧∀ j:Nat,j + 1 < k→j + 1 < c.Vals.length→idx c.Vals (j:Int) < idx c.Vals ((j + 1:Nat):Int)) (by omega) ⟨rfl,Nat.le_refl _,fun j h=>by omega⟩ ?_
 rintro k x hk ⟨rfl,a1,hJ⟩;unfold oI lI
 dsimp only
 have e:=pM (k:=k) (by omega) a1;have e2:=aZ (k:=k) (by omega)
 rw [e,e2]
 repeat' (first | contradiction | with_reducible refine aA (fun hq => ?_) (fun hq => ?_) | with_reducible refine aj (by first | omega | grind [cZ]) ?_ | with_reducible refine aD ?_ | with_reducible refine dB ?_ | with_reducible refine dS ?_ | with_reducible refine dU ?_ | with_reducible refine dV ?_ | with_reducible refine ag ?_)
 ·show false=true↔_
  have hl:¬ Asc c.Vals:=by
   intro hA;have:=hA (k - 1) (by omega)
   rw [show k - 1 + 1=k by omega] at this
   omega
  grind
 ·refine ⟨by omega,rfl,by omega,fun j hj hl => ?_⟩
  rcases Nat.lt_or_ge j (k - 1) with h3 | h3
  ·exact hJ j (by omega) hl
  ·have:j=k - 1:=by omega
   subst this
   rw [show k - 1 + 1=k by omega]
   omega
 ·show decide _=true↔_
  have hl:Asc c.Vals:=fun j hj=>hJ j (by omega) hj
  grind
theorem JU (c:Call) (k:Int) (hs:c.Vals.length < 2 ^ 61):Tri (bE c k) (fun r=>r=true↔xP c k):=by
 unfold bE jT jS lI xP
 simp only [cond_true,cond_false]
 have ha:c.Vals.length=0→Asc c.Vals:=fun h j hj=>by omega
 repeat' (first | contradiction | with_reducible refine aA (fun hq => ?_) (fun hq => ?_) | with_reducible refine aj (by first | omega | grind [cZ]) ?_ | with_reducible refine aD ?_ | with_reducible refine dB ?_ | with_reducible refine dS ?_ | with_reducible refine dU ?_ | with_reducible refine dV ?_ | with_reducible refine ag ?_ | refine ib (TY hs (by assumption)) (fun r hr => ?_))
 all_goals grind
def Small (l:List Call):Prop:=l.length < 2 ^ 61∧zt l (fun c=>c.Vals.length < 2 ^ 61)
theorem RL {l:List Call} {e:Event} (hs:Small l):Tri (eZ l e) (fun r=>r=true ↔ ¬ zt l (fun c=>xP c e.Kind)):=by
 have h1:Tri (dh l e) (fun r=>0≤r ↔ ¬ zt l (fun c=>xP c e.Kind)):=by
  have hl:=hs.1;unfold dh;refine tK l.length (fun j=>xP (idx l (j:Int)) e.Kind) ?_;intro k hk hJ;unfold iP xV
  dsimp only
  repeat' (first | contradiction | with_reducible refine aA (fun hq => ?_) (fun hq => ?_) | with_reducible refine aj (by first | omega | grind [cZ]) ?_ | with_reducible refine aD ?_ | with_reducible refine dB ?_ | with_reducible refine dS ?_ | with_reducible refine dU ?_ | with_reducible refine dV ?_ | with_reducible refine ag ?_ | refine ed (Hr _ _ (hs.2 k (by omega))) (fun r hr => ?_))
  all_goals grind [Nxt,zt,cZ]
 unfold eZ;refine ed h1 (fun r hr => ?_)
 repeat' (first | contradiction | with_reducible refine aA (fun hq => ?_) (fun hq => ?_) | with_reducible refine aj (by first | omega | grind [cZ]) ?_ | with_reducible refine aD ?_ | with_reducible refine dB ?_ | with_reducible refine dS ?_ | with_reducible refine dU ?_ | with_reducible refine dV ?_ | with_reducible refine ag ?_)
 grind
def Ex (e:Event):Prop:=0≤e.Kind∧e.Kind≤3∧e.Calls.length≤16∧zt e.Calls (fun c=>xP c e.Kind)
theorem Ht {e:Event} (hs:Small e.Calls):Tri (jm [e]) (fun r=>(r=0↔Ex e)∧(r=0∨r=1)):=by
 unfold jm;refine aA (fun h => ?_) (fun h => ?_)
 ·simp at h
 ·refine tK 1 (fun j=>Ex e) ?_;intro k hk hJ;unfold zO uj
  dsimp only
  have hi:k=0→idx [e] (k:Int)=e:=by rintro rfl; rfl
  simp only [cond_true,cond_false]
  have hc:=fun h:k=0=>RL (l:=e.Calls) (e:=e) hs
  by_cases h0:k=0
  ·rw [hi h0]
   repeat' (first | contradiction | with_reducible refine aA (fun hq => ?_) (fun hq => ?_) | with_reducible refine aj (by first | omega | grind [cZ]) ?_ | with_reducible refine aD ?_ | with_reducible refine dB ?_ | with_reducible refine dS ?_ | with_reducible refine dU ?_ | with_reducible refine dV ?_ | with_reducible refine ag ?_ | refine ed (hc h0) (fun r hr => ?_))
   all_goals grind [Nxt,Ex,cZ]
  ·repeat' (first | contradiction | with_reducible refine aA (fun hq => ?_) (fun hq => ?_) | with_reducible refine aj (by first | omega | grind [cZ]) ?_ | with_reducible refine aD ?_ | with_reducible refine dB ?_ | with_reducible refine dS ?_ | with_reducible refine dU ?_ | with_reducible refine dV ?_ | with_reducible refine ag ?_ | refine ed (hc (by grind)) (fun r hr => ?_))
   all_goals grind [Nxt,Ex,cZ]
theorem IK {e:Event} (hs:Small e.Calls):Tri (dG e) (fun r=>r=true↔Ex e):=by
 unfold dG kX
 simp only [cond_true,cond_false]
 have hl:=hs.1;have h1:Tri (iter (nN e) 0) (fun r=>r=true↔zt e.Calls (fun c=>xP c e.Kind)):=by
  refine tK e.Calls.length (fun j=>xP (idx e.Calls (j:Int)) e.Kind) ?_;intro k hk hJ;unfold nN
  dsimp only
  repeat' (first | contradiction | with_reducible refine aA (fun hq => ?_) (fun hq => ?_) | with_reducible refine aj (by first | omega | grind [cZ]) ?_ | with_reducible refine aD ?_ | with_reducible refine dB ?_ | with_reducible refine dS ?_ | with_reducible refine dU ?_ | with_reducible refine dV ?_ | with_reducible refine ag ?_ | refine ed (JU _ _ (hs.2 k (by omega))) (fun r hr => ?_))
  all_goals grind [Nxt,zt,cZ]
 repeat' (first | contradiction | with_reducible refine aA (fun hq => ?_) (fun hq => ?_) | with_reducible refine aj (by first | omega | grind [cZ]) ?_ | with_reducible refine aD ?_ | with_reducible refine dB ?_ | with_reducible refine dS ?_ | with_reducible refine dU ?_ | with_reducible refine dV ?_ | with_reducible refine ag ?_ | refine ib h1 (fun r hr => ?_))
 all_goals grind [Ex]
theorem Hu {e:Event} (hs:Small e.Calls):Tri (iA [e]) (fun r=>(r=0↔Ex e)∧(r=0∨r=1)):=by
 unfold iA;refine aA (fun h => ?_) (fun h => ?_)
 ·simp at h
 ·refine tK 1 (fun j=>Ex e) ?_;intro k hk hJ;unfold sw
  dsimp only
  have hi:k=0→idx [e] (k:Int)=e:=by rintro rfl; rfl
  have hc:k=0→Tri (dG (idx [e] (k:Int))) (fun r=>r=true↔Ex e):=fun h0=>by rw [hi h0]; exact IK hs
  repeat' (first | contradiction | with_reducible refine aA (fun hq => ?_) (fun hq => ?_) | with_reducible refine aj (by first | omega | grind [cZ]) ?_ | with_reducible refine aD ?_ | with_reducible refine dB ?_ | with_reducible refine dS ?_ | with_reducible refine dU ?_ | with_reducible refine dV ?_ | with_reducible refine ag ?_ | refine ed (hc (by grind)) (fun r hr => ?_))
  all_goals grind [Nxt,cZ]
def Aj (h:History) (o:Op):Call:=⟨o.Kind,idx h.Keys o.Key,o.Arg,o.Got,o.Vals⟩
def eG (h:History) (t:Txn):List Call:=t.Ops.map (Aj h)
def Ec (h:History) (t:Txn):Event:=⟨0,t.Status,eG h t⟩
def BA (h:History) (t:Txn):Prop:=zt t.Ops (fun o=>0≤o.Key∧o.Key < (h.Keys.length:Int))
def IL (t:Txn):Prop:=t.Ops.length * 56≤140737488351232∧zt t.Ops (fun o=>o.Vals.length * 8≤140737488351232)
theorem IL.small {h:History} {t:Txn} (hs:IL t) (k:Nat):Small ((eG h t).take k):=by
 have h1:=hs.1;refine ⟨by simp [eG]; omega,fun j hj => ?_⟩
 have hj':j < k∧j < t.Ops.length:=by simp [eG] at hj; omega
 rw [Df hj'.1,eG,BG hj'.2]
 have:=hs.2 j hj'.2
 show (idx t.Ops (j:Int)).Vals.length < _
 omega
theorem Gf {h:History} {t:Txn} (hs:IL t):Tri (gq h t) (fun r=>(r.2=true↔BA h t∧Ex (Ec h t))∧(r.2=true→r.1=Ec h t)):=by
 unfold gq;have hl:=hs.1;refine yo t.Ops.length (fun k l=>l=(eG h t).take k∧∀ j:Nat,j < k→0≤(idx t.Ops (j:Int)).Key∧(idx t.Ops (j:Int)).Key < (h.Keys.length:Int)) ⟨rfl,by omega⟩ ?_
 rintro k l hk ⟨rfl,hJ⟩;have hlen:((eG h t).take k).length=k:=by simp [eG]; omega
 unfold yC uZ yB
 simp only [cond_true,cond_false,hlen]
 have hsm:=Ht (e:=⟨0,t.Status,(eG h t).take k⟩) (hs.small k);have hfull:k=t.Ops.length→(eG h t).take k=eG h t:=fun e=>List.take_of_length_le (by simp [eG]; omega);have hnext:k < t.Ops.length→(eG h t).take (k + 1)=(eG h t).take k++[Aj h (idx t.Ops (k:Int))]:=fun hk=>by
  rw [tL (by simpa [eG] using hk),eG,BG hk]
 repeat' (first | contradiction | with_reducible refine aA (fun hq => ?_) (fun hq => ?_) | with_reducible refine aj (by first | omega | grind [cZ]) ?_ | with_reducible refine aD ?_ | with_reducible refine dB ?_ | with_reducible refine dS ?_ | with_reducible refine dU ?_ | with_reducible refine dV ?_ | with_reducible refine ag ?_ | refine ed hsm (fun r hr => ?_))
 all_goals grind [Up2,BA,zt,cZ,Aj,Ec]
def Ku (l:List Txn) (i:Nat):Prop:=∀ j:Nat,j < i → ¬ ((idx l (j:Int)).Proc=(idx l (i:Int)).Proc∧((idx l (j:Int)).To = -1∨(idx l (j:Int)).To ≥ (idx l (i:Int)).From))
def CK (l:List Txn) (i:Nat):Prop :=
 1≤(idx l (i:Int)).Status∧(idx l (i:Int)).Status≤3∧0≤(idx l (i:Int)).From∧((idx l (i:Int)).To = -1→(idx l (i:Int)).Status=3) ∧
  ((idx l (i:Int)).To ≠ -1→(idx l (i:Int)).From < (idx l (i:Int)).To)∧(0 < i→(idx l ((i - 1:Nat):Int)).From < (idx l (i:Int)).From)∧Ku l i
theorem PZ {l:List Txn} {i:Nat} (hi:i < l.length) (hl:l.length < 2 ^ 61):Tri (eT (jW l 0 (i:Int)) (idx l (i:Int))) (fun r=>r=true ↔ ¬ Ku l i):=by
 have h1:Tri (cu (jW l 0 (i:Int)) (idx l (i:Int))) (fun r=>0≤r ↔ ¬ Ku l i):=by
  rw [sO (by omega)]
  unfold cu;have ht:(l.take i).length=i:=by simp; omega
  refine tK i (fun j => ¬ ((idx l (j:Int)).Proc=(idx l (i:Int)).Proc∧((idx l (j:Int)).To = -1∨(idx l (j:Int)).To ≥ (idx l (i:Int)).From))) ?_;intro k hk hJ;unfold iG ve
  dsimp only
  rw [ht]
  have hx:k < i→idx (l.take i) (k:Int)=idx l (k:Int):=fun h=>Df h
  repeat' (first | contradiction | with_reducible refine aA (fun hq => ?_) (fun hq => ?_) | with_reducible refine aj (by first | omega | grind [cZ]) ?_ | with_reducible refine aD ?_ | with_reducible refine dB ?_ | with_reducible refine dS ?_ | with_reducible refine dU ?_ | with_reducible refine dV ?_ | with_reducible refine ag ?_)
  all_goals grind [Nxt,Ku,cZ]
 unfold eT;refine ed h1 (fun r hr => ?_)
 repeat' (first | contradiction | with_reducible refine aA (fun hq => ?_) (fun hq => ?_) | with_reducible refine aj (by first | omega | grind [cZ]) ?_ | with_reducible refine aD ?_ | with_reducible refine dB ?_ | with_reducible refine dS ?_ | with_reducible refine dU ?_ | with_reducible refine dV ?_ | with_reducible refine ag ?_)
 grind
theorem Ff {l:List Txn} {i:Nat} (hi:i < l.length) (hl:l.length < 2 ^ 61):Tri (dF (jW l 0 (i:Int)) (idx l (i:Int))) (fun r=>r=true↔CK l i):=by
 have hf:=PZ hi hl;have hlen:(jW l 0 (i:Int)).length=i:=by rw [sO (by omega)]; simp; omega
 have hx:0 < i→idx (jW l 0 (i:Int)) (w64 ((i:Int) - 1))=idx l ((i - 1:Nat):Int):=fun h=>by
  rw [pM (by omega) (by omega),sO (by omega),Df (by omega)]
 have hw:0 < i→w64 ((i:Int) - 1)=((i - 1:Nat):Int):=fun h=>pM (by omega) (by omega);unfold dF uz uy uw qB CK
 simp only [cond_true,cond_false,hlen]
 repeat' (first | contradiction | with_reducible refine aA (fun hq => ?_) (fun hq => ?_) | with_reducible refine aj (by first | omega | grind [cZ]) ?_ | with_reducible refine aD ?_ | with_reducible refine dB ?_ | with_reducible refine dS ?_ | with_reducible refine dU ?_ | with_reducible refine dV ?_ | with_reducible refine ag ?_ | refine ed hf (fun r hr => ?_))
 all_goals grind
theorem BU {l:List Txn} {i:Nat} (hi:i < l.length) (hl:l.length < 2 ^ 61):Tri (aY l (i:Int)) (fun r=>r=true↔CK l i):=by
 have h1:Tri (iter (mO l (i:Int)) 0) (fun r=>r=true↔Ku l i):=by
  refine tK i (fun j => ¬ ((idx l (j:Int)).Proc=(idx l (i:Int)).Proc∧((idx l (j:Int)).To = -1∨(idx l (j:Int)).To ≥ (idx l (i:Int)).From))) ?_;intro k hk hJ;unfold mO kC
  simp only [cond_true,cond_false]
  repeat' (first | contradiction | with_reducible refine aA (fun hq => ?_) (fun hq => ?_) | with_reducible refine aj (by first | omega | grind [cZ]) ?_ | with_reducible refine aD ?_ | with_reducible refine dB ?_ | with_reducible refine dS ?_ | with_reducible refine dU ?_ | with_reducible refine dV ?_ | with_reducible refine ag ?_)
  all_goals grind [Nxt,Ku,cZ]
 have hw:0 < i→w64 ((i:Int) - 1)=((i - 1:Nat):Int):=fun h=>pM (by omega) (by omega);unfold aY fq mP CK
 simp only [cond_true,cond_false]
 repeat' (first | contradiction | with_reducible refine aA (fun hq => ?_) (fun hq => ?_) | with_reducible refine aj (by first | omega | grind [cZ]) ?_ | with_reducible refine aD ?_ | with_reducible refine dB ?_ | with_reducible refine dS ?_ | with_reducible refine dU ?_ | with_reducible refine dV ?_ | with_reducible refine ag ?_ | refine ib h1 (fun r hr => ?_))
 all_goals grind
def Pk (l:List ByteArray) (s:ByteArray) (r:Int):Prop :=
 (r = -1∧∀ j:Nat,j < l.length→idx l (j:Int)≠s)∨(∃ k:Nat,r=(k:Int)∧k < l.length∧idx l (k:Int)=s∧∀ j:Nat,j < k→idx l (j:Int)≠s)
theorem Gg {l:List ByteArray} {s:ByteArray} (hl:l.length < 2 ^ 61):Tri (gG l s) (Pk l s):=by
 unfold gG;refine tK l.length (fun j=>idx l (j:Int)≠s) ?_;intro k hk hJ;unfold tY
 dsimp only
 repeat' (first | contradiction | with_reducible refine aA (fun hq => ?_) (fun hq => ?_) | with_reducible refine aj (by first | omega | grind [cZ]) ?_ | with_reducible refine aD ?_ | with_reducible refine dB ?_ | with_reducible refine dS ?_ | with_reducible refine dU ?_ | with_reducible refine dV ?_ | with_reducible refine ag ?_)
 ·exact .inr ⟨k,rfl,by omega,by assumption,hJ⟩
 ·grind [Nxt,cZ]
 ·exact .inl ⟨rfl,fun j hj=>hJ j (by omega)⟩
def Ey (l:List ByteArray) (i:Nat):Prop:=1≤(idx l (i:Int)).size∧(idx l (i:Int)).size≤32∧∀ j:Nat,j < i→idx l (j:Int)≠idx l (i:Int)
def wu (l:List ByteArray):Prop:=l.length≤32∧∀ i:Nat,i < l.length→Ey l i
theorem JV {l:List ByteArray} {s:ByteArray} (hl:l.length < 2 ^ 61):Tri (slices_Contains_string l s) (fun r=>r=true↔∃ j:Nat,j < l.length∧idx l (j:Int)=s):=by
 have h1:Tri (slices_Index_string l s) (fun r=>0≤r↔∃ j:Nat,j < l.length∧idx l (j:Int)=s):=by
  unfold slices_Index_string;refine tK l.length (fun j=>idx l (j:Int)≠s) ?_;intro k hk hJ;unfold pX
  dsimp only
  repeat' (first | contradiction | with_reducible refine aA (fun hq => ?_) (fun hq => ?_) | with_reducible refine aj (by first | omega | grind [cZ]) ?_ | with_reducible refine aD ?_ | with_reducible refine dB ?_ | with_reducible refine dS ?_ | with_reducible refine dU ?_ | with_reducible refine dV ?_ | with_reducible refine ag ?_)
  all_goals grind [Nxt,cZ]
 unfold slices_Contains_string;refine ed h1 (fun r hr => ?_)
 repeat' (first | contradiction | with_reducible refine aA (fun hq => ?_) (fun hq => ?_) | with_reducible refine aj (by first | omega | grind [cZ]) ?_ | with_reducible refine aD ?_ | with_reducible refine dB ?_ | with_reducible refine dS ?_ | with_reducible refine dU ?_ | with_reducible refine dV ?_ | with_reducible refine ag ?_)
 grind
theorem IM {l:List ByteArray} (hl:l.length < 2 ^ 61):Tri (dW l) (fun r=>r=true↔wu l):=by
 unfold dW;refine tK l.length (Ey l) ?_;intro k hk hJ;unfold su kW
 simp only [cond_true,cond_false]
 have hf:Tri (gG (jW l 0 (k:Int)) (idx l (k:Int))) (fun r=>0≤r↔∃ j:Nat,j < k∧idx l (j:Int)=idx l (k:Int)):=by
  rw [sO (by omega)]
  refine ib (Gg (by simp; omega)) (fun r hr => ?_);have ht:(l.take k).length=k:=by simp; omega
  have hx:∀ j:Nat,j < k→idx (l.take k) (j:Int)=idx l (j:Int):=fun j h=>Df h;unfold Pk at hr
  rw [ht] at hr
  grind
 have hN:wu l→k < l.length→Ey l k:=fun h hk=>h.2 k hk
 repeat' (first | contradiction | with_reducible refine aA (fun hq => ?_) (fun hq => ?_) | with_reducible refine aj (by first | omega | grind [cZ]) ?_ | with_reducible refine aD ?_ | with_reducible refine dB ?_ | with_reducible refine dS ?_ | with_reducible refine dU ?_ | with_reducible refine dV ?_ | with_reducible refine ag ?_ | refine ed hf (fun r hr => ?_))
 all_goals (have hNk:Ey l k↔(1≤(idx l (k:Int)).size∧(idx l (k:Int)).size≤32∧∀ j:Nat,j < k→idx l (j:Int)≠idx l (k:Int)):=Iff.rfl)
 all_goals grind [Nxt,wu,cZ]
end Go.Proofs.YtfpeabnehpclnaaGreatT
namespace Go.Proofs.YtfpeabnehpclnaaGreatT
open Go Go.Proofs Go.Proofs.YtfpeabnehpclnaaGreatE
set_option linter.unusedVariables false
set_option linter.unusedSimpArgs false
def typ (k:Int):Int:=(k - 1) % 4 + 1
theorem CL {k:Int} (h1:1≤k) (h2:k≤8):sQ k=some (typ k):=by
 have:k=1∨k=2∨k=3∨k=4∨k=5∨k=6∨k=7∨k=8:=by omega
 rcases this with h | h | h | h | h | h | h | h <;> subst h <;> decide
theorem Dr {k:Int} (h1:1≤k) (h2:k≤8):jJ k=some (typ k):=by
 have:k=1∨k=2∨k=3∨k=4∨k=5∨k=6∨k=7∨k=8:=by omega
 rcases this with h | h | h | h | h | h | h | h <;> subst h <;> decide
structure Sim (g:bT) (b:aR) (n:Nat):Prop where
 keys:g.keys=b.keys
 types:g.types=b.types
 len:b.keys.length≤32
 tl:b.types.length=b.keys.length
 wl:b.wrote.length=b.keys.length
 il:b.incs.length=b.keys.length
 ll:b.last_.length=b.keys.length
 nd:∀ i j:Nat,i < b.keys.length→j < b.keys.length→idx b.keys (i:Int)=idx b.keys (j:Int)→i=j
 has:∀ s,jX g.at_ s=true↔∃ j:Nat,j < b.keys.length∧idx b.keys (j:Int)=s
 at_:∀ j:Nat,j < b.keys.length→mat g.at_ (idx b.keys (j:Int))=(j:Int)
 facts:∀ j:Nat,j < b.keys.length→∀ a,jX g.facts ⟨idx b.keys (j:Int),a⟩=true↔∃ m:Nat,m < (idx b.wrote (j:Int)).length∧idx (idx b.wrote (j:Int)) (m:Int)=a
 fout:∀ s a,jX g.facts ⟨s,a⟩=true→∃ j:Nat,j < b.keys.length∧idx b.keys (j:Int)=s
 wn:∀ j:Nat,j < b.keys.length→(idx b.wrote (j:Int)).length≤n
 incs:∀ j:Nat,j < b.keys.length→((mat g.incs (idx b.keys (j:Int))).length:Int)=idx b.incs (j:Int)
 i8:∀ j:Nat,j < b.keys.length→(mat g.incs (idx b.keys (j:Int))).length≤8
 iout:∀ s,(∀ j:Nat,j < b.keys.length→idx b.keys (j:Int)≠s)→mat g.incs s=[]
 last:∀ j:Nat,j < b.keys.length→((mat g.incs (idx b.keys (j:Int))).length=0→idx b.last_ (j:Int) = -1) ∧
  (0 < (mat g.incs (idx b.keys (j:Int))).length→idx b.last_ (j:Int)=idx (mat g.incs (idx b.keys (j:Int))) (((mat g.incs (idx b.keys (j:Int))).length - 1:Nat):Int))
theorem Sim.start:Sim ⟨[],[],[],[],[]⟩ ⟨[],[],[],[],[]⟩ 0:=by
 refine ⟨rfl,rfl,by simp,rfl,rfl,rfl,rfl,?_,?_,?_,?_,?_,?_,?_,?_,?_,?_⟩
 all_goals simp [Nr,Uz]
 rfl
theorem Sim.mono {g:bT} {b:aR} {n m:Nat} (h:Sim g b n) (hm:n≤m):Sim g b m :=
 { h with wn:=fun j hj=>Nat.le_trans (h.wn j hj) hm }
theorem Sim.new {g:bT} {b:aR} {n:Nat} (h:Sim g b n) {s:ByteArray} {t:Int} (hn:∀ j:Nat,j < b.keys.length→idx b.keys (j:Int)≠s) (a2:b.keys.length < 32) :
  Sim ⟨g.keys++[s],iE g.at_ s (g.keys.length:Int),g.types++[t],g.facts,g.incs⟩ ⟨b.keys++[s],b.types++[t],b.wrote++[[]],b.incs++[0],b.last_++[-1]⟩ n:=by
 have hk:=h.keys;have hl:(b.keys++[s]).length=b.keys.length + 1:=by simp
 have k1:∀ j:Nat,j < b.keys.length→idx (b.keys++[s]) (j:Int)=idx b.keys (j:Int):=fun j hj=>oh hj;have k2:idx (b.keys++[s]) ((b.keys.length:Nat):Int)=s:=nk rfl;have w1:∀ j:Nat,j < b.keys.length→idx (b.wrote++[[]]) (j:Int)=idx b.wrote (j:Int):=fun j hj=>oh (by rw [h.wl]; exact hj);have w2:idx (b.wrote++[[]]) ((b.keys.length:Nat):Int)=[]:=nk h.wl.symm;have i1:∀ j:Nat,j < b.keys.length→idx (b.incs++[0]) (j:Int)=idx b.incs (j:Int):=fun j hj=>oh (by rw [h.il]; exact hj);have i2:idx (b.incs++[0]) ((b.keys.length:Nat):Int)=0:=nk h.il.symm;have l1:∀ j:Nat,j < b.keys.length→idx (b.last_++[-1]) (j:Int)=idx b.last_ (j:Int):=fun j hj=>oh (by rw [h.ll]; exact hj);have l2:idx (b.last_++[-1]) ((b.keys.length:Nat):Int) = -1:=nk h.ll.symm;have a1:=h.iout s hn;have cut:∀ j:Nat,j < b.keys.length + 1→j < b.keys.length∨j=b.keys.length:=by omega
 refine ⟨by simp [hk],by simp [h.types],by simp; omega,by simp [h.tl],by simp [h.wl],by simp [h.il],by simp [h.ll],?_,?_,?_,?_,?_,?_,?_,?_,?_,?_⟩
 ·intro i j hi hj he
  dsimp only at hi hj he
  rw [hl] at hi hj
  have:=h.nd i j;rcases cut i hi with hi' | hi' <;> rcases cut j hj with hj' | hj' <;> grind
 ·intro x
  dsimp only
  rw [Ba,hl,h.has]
  constructor
  ·rintro (rfl | ⟨j,hj,he⟩)
   ·exact ⟨_,Nat.lt_succ_self _,k2⟩
   ·exact ⟨j,by omega,(k1 j hj).trans he⟩
  ·rintro ⟨j,hj,he⟩;rcases cut j hj with hj' | hj'
   ·exact .inr ⟨j,hj',(k1 j hj') ▸ he⟩
   ·subst hj'; exact .inl (k2.symm.trans he).symm
 ·intro j hj
  dsimp only at hj ⊢
  rw [hl] at hj
  rw [zH,hk]
  rcases cut j hj with hj' | hj'
  ·rw [k1 j hj',if_neg (hn j hj')]; exact h.at_ j hj'
  ·subst hj'; rw [k2,if_pos rfl]
 ·intro j hj a
  dsimp only at hj ⊢
  rw [hl] at hj
  rcases cut j hj with hj' | hj'
  ·rw [k1 j hj',w1 j hj']; exact h.facts j hj' a
  ·subst hj'
   rw [k2,w2]
   constructor
   ·intro hh;obtain ⟨i,hi,he⟩:=h.fout s a hh;exact absurd he (hn i hi)
   ·rintro ⟨m,hm,_⟩; simp at hm
 ·intro x a hh;obtain ⟨i,hi,he⟩:=h.fout x a hh;exact ⟨i,by simp; omega,(k1 i hi).trans he⟩
 ·intro j hj
  dsimp only at hj ⊢
  rw [hl] at hj
  rcases cut j hj with hj' | hj'
  ·rw [w1 j hj']; exact h.wn j hj'
  ·subst hj'; rw [w2]; simp
 ·intro j hj
  dsimp only at hj ⊢
  rw [hl] at hj
  rcases cut j hj with hj' | hj'
  ·rw [k1 j hj',i1 j hj']; exact h.incs j hj'
  ·subst hj'; rw [k2,i2,a1]; rfl
 ·intro j hj
  dsimp only at hj ⊢
  rw [hl] at hj
  rcases cut j hj with hj' | hj'
  ·rw [k1 j hj']; exact h.i8 j hj'
  ·subst hj'; rw [k2,a1]; simp
 ·intro x hx
  dsimp only at hx ⊢
  rw [hl] at hx
  exact h.iout x (fun j hj=>by rw [← k1 j hj]; exact hx j (by omega))
 ·intro j hj
  dsimp only at hj ⊢
  rw [hl] at hj
  rcases cut j hj with hj' | hj'
  ·rw [k1 j hj',l1 j hj']; exact h.last j hj'
  ·subst hj'; rw [k2,l2,a1]; simp
theorem Sim.write {g:bT} {b:aR} {n k:Nat} (h:Sim g b n) {s:ByteArray} {a:Int} (hk:k < b.keys.length) (hs:idx b.keys (k:Int)=s) :
  Sim ⟨g.keys,g.at_,g.types,iE g.facts ⟨s,a⟩ (),g.incs⟩ ⟨b.keys,b.types,b.wrote.set k (idx b.wrote (k:Int)++[a]),b.incs,b.last_⟩ (n + 1):=by
 have w1:∀ j:Nat,idx (b.wrote.set k (idx b.wrote (k:Int)++[a])) (j:Int)=if j=k then idx b.wrote (k:Int)++[a] else idx b.wrote (j:Int):=fun j=>xI (by rw [h.wl]; exact hk);refine ⟨h.keys,h.types,h.len,h.tl,by simp [h.wl],h.il,h.ll,h.nd,h.has,h.at_,?_,?_,?_,h.incs,h.i8,h.iout,h.last⟩
 ·intro j hj x
  dsimp only at hj ⊢
  rw [Ba,w1 j,h.facts j hj]
  by_cases e:j=k
  ·subst e
   rw [if_pos rfl,hs]
   constructor
   ·rintro (he | ⟨m,hm,he⟩)
    ·have:x=a:=by injection he
     subst this;exact ⟨_,by simp,nk rfl⟩
    ·exact ⟨m,by simp; omega,(oh hm).trans he⟩
   ·rintro ⟨m,hm,he⟩;rcases Nat.lt_or_ge m (idx b.wrote (j:Int)).length with h1 | h1
    ·exact .inr ⟨m,h1,(oh h1).symm.trans he⟩
    ·simp at hm
     rw [nk (by omega)] at he
     rw [he]; exact .inl rfl
  ·rw [if_neg e]
   constructor
   ·rintro (he | hh)
    ·injection he with h1 h2
     exact absurd (h.nd j k hj hk (h1.trans hs.symm)) e
    ·exact hh
   ·exact .inr
 ·intro x y hh
  dsimp only at hh ⊢
  rcases Ba.1 hh with he | hh
  ·injection he with h1 h2
   exact ⟨k,hk,hs.trans h1.symm⟩
  ·exact h.fout x y hh
 ·intro j hj
  dsimp only at hj ⊢
  rw [w1 j]
  have:=h.wn j hj
  split
  ·rename_i e; subst e; simp; omega
  ·omega
theorem Sim.inc {g:bT} {b:aR} {n k:Nat} (h:Sim g b n) {s:ByteArray} {a:Int} (hk:k < b.keys.length) (hs:idx b.keys (k:Int)=s) (h8:(mat g.incs s).length < 8) :
  Sim ⟨g.keys,g.at_,g.types,g.facts,iE g.incs s (mat g.incs s++[a])⟩ ⟨b.keys,b.types,b.wrote,b.incs.set k (idx b.incs (k:Int) + 1),b.last_.set k a⟩ n:=by
 have i1:∀ j:Nat,idx (b.incs.set k (idx b.incs (k:Int) + 1)) (j:Int)=if j=k then idx b.incs (k:Int) + 1 else idx b.incs (j:Int):=fun j=>xI (by rw [h.il]; exact hk);have l1:∀ j:Nat,idx (b.last_.set k a) (j:Int)=if j=k then a else idx b.last_ (j:Int):=fun j=>xI (by rw [h.ll]; exact hk);have hne:∀ j:Nat,j < b.keys.length→j≠k→idx b.keys (j:Int)≠s:=fun j hj e he=>e (h.nd j k hj hk (he.trans hs.symm));refine ⟨h.keys,h.types,h.len,h.tl,h.wl,by simp [h.il],by simp [h.ll],h.nd,h.has,h.at_,h.facts,h.fout,h.wn,?_,?_,?_,?_⟩
 ·intro j hj
  dsimp only at hj ⊢
  rw [zH,i1 j]
  by_cases e:j=k
  ·subst e
   rw [if_pos hs,if_pos rfl,← h.incs j hj,hs]; simp
  ·rw [if_neg (hne j hj e),if_neg e]; exact h.incs j hj
 ·intro j hj
  dsimp only at hj ⊢
  rw [zH]
  by_cases e:j=k
  ·subst e
   rw [if_pos hs]; simp; omega
  ·rw [if_neg (hne j hj e)]; exact h.i8 j hj
 ·intro x hx
  dsimp only at hx ⊢
  rw [zH,if_neg (fun e=>hx k hk (hs.trans e.symm))]
  exact h.iout x hx
 ·intro j hj
  dsimp only at hj ⊢
  rw [zH,l1 j]
  by_cases e:j=k
  ·subst e
   rw [if_pos hs,if_pos rfl]
   refine ⟨fun h0=>by simp at h0,fun _ => ?_⟩
   rw [nk (by simp)]
  ·rw [if_neg (hne j hj e),if_neg e]; exact h.last j hj
theorem NV {c:Call} {who:Int} {a5:List ByteArray} {a3:List Int} {a1:List (List Int)} {a4 a2:List Int} {k:Nat} {Q:Int×aR→Prop} (hk:k < a1.length) (hb:(idx a1 (k:Int)).length≤4096)
  (h1:(∃ m:Nat,m < (idx a1 (k:Int)).length∧idx (idx a1 (k:Int)) (m:Int)=c.Arg)→Q (3,⟨a5,a3,a1,a4,a2⟩))
  (h2:(¬ ∃ m:Nat,m < (idx a1 (k:Int)).length∧idx (idx a1 (k:Int)) (m:Int)=c.Arg)→Tri (gQ c who a5 a3 a4 a2 (k:Int) (a1.set k (idx a1 (k:Int)++[c.Arg]))) Q) :
  Tri (iter (kg c who a5 a3 a1 a4 a2 (k:Int)) 0) Q:=by
 refine tK (idx a1 (k:Int)).length (fun m=>idx (idx a1 (k:Int)) (m:Int)≠c.Arg) ?_;intro m hm hJ;unfold kg
 dsimp only
 rw [Int.toNat_natCast]
 repeat' (first | contradiction | with_reducible refine aA (fun hq => ?_) (fun hq => ?_) | with_reducible refine aj (by first | omega | grind [cZ]) ?_ | with_reducible refine aD ?_ | with_reducible refine dB ?_ | with_reducible refine dS ?_ | with_reducible refine dU ?_ | with_reducible refine dV ?_ | with_reducible refine ag ?_)
 ·exact h1 ⟨m,by omega,by assumption⟩
 ·grind [Nxt,cZ]
 ·exact h2 (by grind)
def Both (r:Int×bT) (n:Nat) (r':Int×aR):Prop:=r.1=r'.1∧(r.1=0→Sim r.2 r'.2 n)
def NW (b:aR) (c:Call) (who:Int) (k:Nat) (r:Int×aR):Prop :=
 (idx b.types (k:Int)≠typ c.Kind∧r=(50,b)) ∨
 (idx b.types (k:Int)=typ c.Kind∧(c.Kind=2∨c.Kind=3)∧(∃ m:Nat,m < (idx b.wrote (k:Int)).length∧idx (idx b.wrote (k:Int)) (m:Int)=c.Arg)∧r=(3,b)) ∨
 (idx b.types (k:Int)=typ c.Kind∧(c.Kind=2∨c.Kind=3)∧(¬ ∃ m:Nat,m < (idx b.wrote (k:Int)).length∧idx (idx b.wrote (k:Int)) (m:Int)=c.Arg) ∧
  r=(0,⟨b.keys,b.types,b.wrote.set k (idx b.wrote (k:Int)++[c.Arg]),b.incs,b.last_⟩)) ∨
 (idx b.types (k:Int)=typ c.Kind∧c.Kind=4∧idx b.last_ (k:Int)≠who∧idx b.incs (k:Int) + 1 > 8∧r.1=51) ∨
 (idx b.types (k:Int)=typ c.Kind∧c.Kind=4∧idx b.last_ (k:Int)≠who∧idx b.incs (k:Int) + 1≤8 ∧
  r=(0,⟨b.keys,b.types,b.wrote,b.incs.set k (idx b.incs (k:Int) + 1),b.last_.set k who⟩)) ∨
 (idx b.types (k:Int)=typ c.Kind∧c.Kind=4∧idx b.last_ (k:Int)=who∧r=(0,b)) ∨
 (idx b.types (k:Int)=typ c.Kind∧c.Kind≠2∧c.Kind≠3∧c.Kind≠4∧r=(0,b))
theorem Li {b:aR} {k:Nat} {c:Call} {who:Int} (hk:k < b.keys.length) (t1:b.types.length=b.keys.length) (t2:b.wrote.length=b.keys.length) (t3:b.incs.length=b.keys.length)
  (t4:b.last_.length=b.keys.length) (hwr:(idx b.wrote (k:Int)).length≤4096) (hin:0≤idx b.incs (k:Int)∧idx b.incs (k:Int)≤8)
  (h1:1≤c.Kind) (h8:c.Kind≤8):Tri (fH c who b.keys b.types b.wrote b.incs b.last_ (k:Int)) (NW b c who k):=by
 have e1:w64 (idx b.incs (k:Int) + 1)=idx b.incs (k:Int) + 1:=cZ (by omega) (by omega);have e2:idx (b.incs.set k (idx b.incs (k:Int) + 1)) (k:Int)=idx b.incs (k:Int) + 1:=by rw [xI (by omega),if_pos rfl]
 unfold fH ko gQ iV iU
 simp only [cond_true,cond_false,Dr h1 h8,Int.toNat_natCast,e1,e2]
 repeat' (first | contradiction | with_reducible refine aA (fun hq => ?_) (fun hq => ?_) | with_reducible refine aj (by first | omega | grind [cZ]) ?_ | with_reducible refine aD ?_ | with_reducible refine dB ?_ | with_reducible refine dS ?_ | with_reducible refine dU ?_ | with_reducible refine dV ?_ | with_reducible refine ag ?_ | refine NV (by omega) hwr (fun h => ?_) (fun h => ?_))
 all_goals try unfold gQ iV iU
 all_goals try simp only [cond_true,cond_false,Int.toNat_natCast,e1,e2]
 repeat' (first | contradiction | with_reducible refine aA (fun hq => ?_) (fun hq => ?_) | with_reducible refine aj (by first | omega | grind [cZ]) ?_ | with_reducible refine aD ?_ | with_reducible refine dB ?_ | with_reducible refine dS ?_ | with_reducible refine dU ?_ | with_reducible refine dV ?_ | with_reducible refine ag ?_)
 all_goals grind [NW]
theorem enter_at {g:bT} {b:aR} {n k:Nat} {a0:bT} {c:Call} {who:Int} (h:Sim g b n) (hf:a0.facts=g.facts) (hi:a0.incs=g.incs) (hk:k < b.keys.length) (hs:idx b.keys (k:Int)=c.Key)
  (h1:1≤c.Kind) (h8:c.Kind≤8) (hw:0≤who) (hn:n≤2048) :
  Tri (ky a0 c who g.keys g.at_ g.types (k:Int)) (fun r=>Tri (fH c who b.keys b.types b.wrote b.incs b.last_ (k:Int)) (Both r (n + 1))):=by
 obtain ⟨gk,ga,gt,gf,gi⟩:=g
 dsimp only at hf hi
 have htl:=h.types;have hkk:=h.keys
 dsimp only at htl hkk ⊢
 subst htl hkk;have t1:=h.tl;have t2:=h.wl;have t3:=h.il;have t4:=h.ll;have hfa:=h.facts k hk c.Arg;have hin:=h.incs k hk;have a1:=h.i8 k hk;have hla:=h.last k hk;have hwr:=h.wn k hk
 rw [hs] at hfa hin a1 hla
 dsimp only at hfa hin a1 hla
 obtain ⟨r',hr',spec⟩:=Li (who:=who) hk t1 t2 t3 t4 (by omega) (by omega) h1 h8;have s0:=h.mono (Nat.le_succ n);have s1:=h.write (a:=c.Arg) hk hs;have s2:(mat gi c.Key).length < 8→_:=fun hl=>(h.inc (a:=who) hk hs hl).mono (Nat.le_succ n)
 dsimp only at s1 s2
 have e3:0 < (mat gi c.Key).length→w64 (((mat gi c.Key).length:Int) - 1)=(((mat gi c.Key).length - 1:Nat):Int):=fun h=>pM (by omega) (by omega);have m1:mat (iE gi c.Key (mat gi c.Key++[who])) c.Key=mat gi c.Key++[who]:=by rw [zH,if_pos rfl]
 unfold ky mK qM mJ mI kw
 simp only [cond_true,cond_false,CL h1 h8,hf,hi,m1]
 repeat' (first | contradiction | with_reducible refine aA (fun hq => ?_) (fun hq => ?_) | with_reducible refine aj (by first | omega | grind [cZ]) ?_ | with_reducible refine aD ?_ | with_reducible refine dB ?_ | with_reducible refine dS ?_ | with_reducible refine dU ?_ | with_reducible refine dV ?_ | with_reducible refine ag ?_)
 all_goals refine ⟨r',hr',?_⟩
 all_goals unfold NW at spec
 all_goals simp only [Both]
 all_goals grind
theorem NY {g:bT} {b:aR} {n:Nat} {c:Call} {who:Int} (h:Sim g b n) (h1:1≤c.Kind) (h8:c.Kind≤8) (hw:0≤who) (hn:n≤2048) :
  Tri (aN g c who) (fun r=>Tri (az b c who) (Both r (n + 1))):=by
 have hl:=h.len;have t1:=h.tl;have t2:=h.wl;have t3:=h.il;have t4:=h.ll;have hk:=h.keys;have ht:=h.types;obtain ⟨r0,a3,hf⟩:=Gg (l:=b.keys) (s:=c.Key) (by omega);rcases hf with ⟨rfl,hno⟩ | ⟨k,rfl,a2,a1,_⟩
 ·have hm:¬ jX g.at_ c.Key=true:=fun hh=>by
   obtain ⟨j,hj,he⟩:=(h.has c.Key).1 hh;exact hno j hj he
  unfold aN az qN
  simp only [a3,CL h1 h8,hk,ht]
  refine aA (fun _ => ?_) (fun hh=>absurd hm hh);refine aA (fun a4 => ?_) (fun a4 => ?_)
  ·refine ag (dB ?_)
   repeat' (first | contradiction | with_reducible refine aA (fun hq => ?_) (fun hq => ?_) | with_reducible refine aj (by first | omega | grind [cZ]) ?_ | with_reducible refine aD ?_ | with_reducible refine dB ?_ | with_reducible refine dS ?_ | with_reducible refine dU ?_ | with_reducible refine dV ?_ | with_reducible refine ag ?_)
   ·exact ⟨rfl,fun h=>by cases h⟩
   ·omega
  ·have hS:=h.new (s:=c.Key) (t:=typ c.Kind) hno (by omega)
   rw [hk,ht] at hS
   have he:=enter_at (a0:=g) (who:=who) hS rfl rfl (k:=b.keys.length) (by simp) (nk rfl) h1 h8 hw hn
   dsimp only at he
   refine aj (by omega) (dB (aj (by omega) ?_));refine ib he (fun r hr => ?_);unfold ku kr
   simp only [Dr h1 h8]
   repeat' (first | contradiction | with_reducible refine aA (fun hq => ?_) (fun hq => ?_) | with_reducible refine aj (by first | omega | grind [cZ]) ?_ | with_reducible refine aD ?_ | with_reducible refine dB ?_ | with_reducible refine dS ?_ | with_reducible refine dU ?_ | with_reducible refine dV ?_ | with_reducible refine ag ?_ | exact hr)
   omega
 ·have hm:jX g.at_ c.Key=true:=(h.has c.Key).2 ⟨k,a2,a1⟩;have hat:mat g.at_ c.Key=(k:Int):=by rw [← a1]; exact h.at_ k a2
  have he:=enter_at (a0:=g) (who:=who) h rfl rfl a2 a1 h1 h8 hw hn;unfold aN az
  simp only [a3,hat]
  refine aA (fun hh=>absurd hm hh) (fun _ => ?_);refine ib he (fun r hr=>dB ?_)
  repeat' (first | contradiction | with_reducible refine aA (fun hq => ?_) (fun hq => ?_) | with_reducible refine aj (by first | omega | grind [cZ]) ?_ | with_reducible refine aD ?_ | with_reducible refine dB ?_ | with_reducible refine dS ?_ | with_reducible refine dU ?_ | with_reducible refine dV ?_ | with_reducible refine ag ?_ | exact hr)
abbrev GS:=List ByteArray×(List (ByteArray×Int))×List Int×(List (eB×Unit))×(List (ByteArray×(List Int)))×Int
abbrev BS:=List ByteArray×List Int×(List (List Int))×List Int×List Int×Int
def MK (g:bT) (x:Int):GS:=(g.keys,g.at_,g.types,g.facts,g.incs,x)
def Fg (b:aR) (x:Int):BS:=(b.keys,b.types,b.wrote,b.incs,b.last_,x)
def Go1 (i n:Nat):GS ⊕ (Int ⊕ Int)→(List Call×Int) ⊕ (BS ⊕ Int)→Prop
 | .inl s,.inr (.inl t)=>∃ g b,s=MK g ((i + 1:Nat):Int)∧t=Fg b ((i + 1:Nat):Int)∧Sim g b n
 | .inr (.inr a),.inr (.inr b)=>a=1∧b=1
 | _,_=>False
theorem enters {g:bT} {b:aR} {n i:Nat} {l:List Call} {y:Event×Bool} (h:Sim g b n) (hy:y.1.Calls=l) (hl:l.length≤16) (hi:i < 64) (hn:n≤1024) (hc:zt l (fun c=>1≤c.Kind∧c.Kind≤8)) :
  Tri (iter (vg (i:Int) y) (MK g 0)) (fun x=>Tri (iter (iL (i:Int) l) (Fg b 0)) (Go1 i (n + 16) x)):=by
 refine Gy l.length (fun k s t=>∃ g b,s=MK g (k:Int)∧t=Fg b (k:Int)∧Sim g b (n + k)) (Nat.zero_le _) ⟨g,b,rfl,rfl,h⟩ ?_;rintro k s t hk ⟨g,b,rfl,rfl,hS⟩;unfold vg iL MK Fg
 dsimp only
 rw [hy]
 refine aA (fun h => ?_) (fun h => ?_)
 ·refine aj (by omega) ?_;obtain ⟨r,hr,r',hr',hb⟩:=NY (who:=(i:Int)) hS (hc k (by omega)).1 (hc k (by omega)).2 (by omega) (by omega);refine bA hr ?_;have hw:w64 ((k:Int) + 1)=((k + 1:Nat):Int):=aZ (by omega)
  rw [hw]
  repeat' (first | contradiction | with_reducible refine aA (fun hq => ?_) (fun hq => ?_) | with_reducible refine aj (by first | omega | grind [cZ]) ?_ | with_reducible refine aD ?_ | with_reducible refine dB ?_ | with_reducible refine dS ?_ | with_reducible refine dU ?_ | with_reducible refine dV ?_ | with_reducible refine ag ?_ | refine bA hr' ?_)
  ·exact ⟨rfl,rfl⟩
  ·exact absurd (by rw [hb.1]; omega) ‹r.1≠0›
  ·exact absurd (by rw [← hb.1]; omega) ‹r'.1≠0›
  ·exact ⟨by omega,r.2,r'.2,rfl,rfl,hb.2 (by omega)⟩
 ·have hw:w64 ((i:Int) + 1)=((i + 1:Nat):Int):=aZ (by omega)
  rw [hw]
  repeat' (first | contradiction | with_reducible refine aA (fun hq => ?_) (fun hq => ?_) | with_reducible refine aj (by first | omega | grind [cZ]) ?_ | with_reducible refine aD ?_ | with_reducible refine dB ?_ | with_reducible refine dS ?_ | with_reducible refine dU ?_ | with_reducible refine dV ?_ | with_reducible refine ag ?_)
  exact ⟨g,b,rfl,rfl,hS.mono (by omega)⟩
theorem Lj {h:History} {i:Nat} {b:aR} {Q:BS ⊕ Int→Prop} (hi:i < h.Txns.length) (hs:IL (idx h.Txns (i:Int))) (a2:(idx h.Txns (i:Int)).Ops.length≤16)
  (h1:¬ (BA h (idx h.Txns (i:Int))∧Ex (Ec h (idx h.Txns (i:Int))))→Q (.inr 1))
  (h2:BA h (idx h.Txns (i:Int))→Ex (Ec h (idx h.Txns (i:Int)))→Tri (iter (iL (i:Int) (eG h (idx h.Txns (i:Int)))) (Fg b 0)) (fun x=>match x with | .inl _=>False | .inr y=>Q y)) :
  Tri (iter (iM h b.keys b.types b.wrote b.incs b.last_ (i:Int)) ([],0)) Q:=by
 generalize ht:idx h.Txns (i:Int)=t at hs a2 h1 h2;refine yo t.Ops.length (fun k l=>l=(eG h t).take k∧∀ j:Nat,j < k→0≤(idx t.Ops (j:Int)).Key∧(idx t.Ops (j:Int)).Key < (h.Keys.length:Int)) ⟨rfl,by omega⟩ ?_
 rintro k l hk ⟨rfl,hJ⟩;have hlen:((eG h t).take k).length=k:=by simp [eG]; omega
 unfold iM nO sD
 simp only [cond_true,cond_false,hlen,ht]
 have hsm:=Hu (e:=⟨0,t.Status,(eG h t).take k⟩) (hs.small k);have hfull:k=t.Ops.length→(eG h t).take k=eG h t:=fun e=>List.take_of_length_le (by simp [eG]; omega);have hnext:k < t.Ops.length→(eG h t).take (k + 1)=(eG h t).take k++[Aj h (idx t.Ops (k:Int))]:=fun hk=>by
  rw [tL (by simpa [eG] using hk),eG,BG hk]
 have hw:w64 ((k:Int) + 1)=((k + 1:Nat):Int):=aZ (by omega)
 rw [hw]
 repeat' (first | contradiction | with_reducible refine aA (fun hq => ?_) (fun hq => ?_) | with_reducible refine aj (by first | omega | grind [cZ]) ?_ | with_reducible refine aD ?_ | with_reducible refine dB ?_ | with_reducible refine dS ?_ | with_reducible refine dU ?_ | with_reducible refine dV ?_ | with_reducible refine ag ?_ | refine ed hsm (fun r hr => ?_))
 ·grind [Up2,BA,zt]
 ·grind [Up2,BA,zt]
 ·grind [Up2,Aj]
 ·have a1:k=t.Ops.length:=by omega
  rw [hfull a1] at hr
  refine h1 (fun hh => ?_);have:=hr.1.2 hh.2
  contradiction
 ·have a1:k=t.Ops.length:=by omega
  rw [hfull a1] at hr ⊢
  have hK:BA _ t:=fun j hj=>hJ j (by omega);refine ib (h2 hK (hr.1.1 (by omega))) ?_;rintro (x | y) hxy
  ·exact hxy.elim
  ·exact hxy
def Fh (h:History) (i:Nat):Prop:=CK h.Txns i∧BA h (idx h.Txns (i:Int))∧Ex (Ec h (idx h.Txns (i:Int)))
def qy (h:History):Prop:=h.Keys.length * 16≤140737488351232∧h.Txns.length * 56≤140737488351232∧zt h.Txns IL
theorem Qa {h:History} (hs:qy h) (hN:wu h.Keys) (b0:h.Txns.length≤32) :
  Tri (iter (rV h) (MK ⟨[],[],[],[],[]⟩ 0)) (fun x=>Tri (iter (kZ h) (Fg ⟨[],[],[],[],[]⟩ 0)) (fun y=>(∃ v,x = .inr v∧v=y)∧(y=0∨y=1))):=by
 obtain ⟨a9,a8,a2⟩:=hs;refine Gy h.Txns.length (fun k s t=>∃ g b,s=MK g (k:Int)∧t=Fg b (k:Int)∧Sim g b (k * 16)∧∀ j:Nat,j < k→Fh h j) (Nat.zero_le _) ⟨_,_,rfl,rfl,Sim.start,fun j hj=>absurd hj (Nat.not_lt_zero _)⟩ ?_;rintro k s t hk ⟨g,b,rfl,rfl,hS,hJ⟩;unfold rV vk kZ kY MK Fg
 simp only [cond_true,cond_false]
 refine aA (fun a7 => ?_) (fun a7 => ?_)
 ·have a1:k < h.Txns.length:=by omega
  obtain ⟨r,hr,a4,a6⟩:=Gf (h:=h) (a2 k a1);obtain ⟨p,hp,a5⟩:=Ff (l:=h.Txns) a1 (by omega);obtain ⟨p',hp',hp1'⟩:=BU (l:=h.Txns) a1 (by omega);have hco:Ex (Ec h (idx h.Txns (k:Int)))→(idx h.Txns (k:Int)).Ops.length≤16:=fun he=>by
   have:=he.2.2.1
   simpa [Ec,eG] using this
  refine aj (by omega) (bA hr ?_)
  by_cases hok:Fh h k
  ·have e1:r.2=true:=a4.2 ⟨hok.2.1,hok.2.2⟩;have e2:p=true:=a5.2 hok.1;have e3:p'=true:=hp1'.2 hok.1;have hc:zt (eG h (idx h.Txns (k:Int))) (fun c=>1≤c.Kind∧c.Kind≤8):=fun j hj=>⟨(hok.2.2.2.2.2 j hj).1,(hok.2.2.2.2.2 j hj).2.1⟩;obtain ⟨x,hx,y,hy,hxy⟩:=enters (y:=r) (i:=k) hS (congrArg Event.Calls (a6 e1)) hok.2.2.2.2.1 (by omega) (by omega) hc;refine aA (fun h=>absurd e1 h) (fun _ => ?_);refine aj (by omega) (bA hp ?_);refine aA (fun h=>absurd e2 h) (fun _ => ?_);refine ⟨x,hx,?_⟩
   repeat' (first | contradiction | with_reducible refine aA (fun hq => ?_) (fun hq => ?_) | with_reducible refine aj (by first | omega | grind [cZ]) ?_ | with_reducible refine aD ?_ | with_reducible refine dB ?_ | with_reducible refine dS ?_ | with_reducible refine dU ?_ | with_reducible refine dV ?_ | with_reducible refine ag ?_ | refine bA hp' ?_)
   ·exact absurd (hco hok.2.2) (by omega)
   ·refine Lj a1 (a2 k a1) (hco hok.2.2) (fun hn=>absurd ⟨hok.2.1,hok.2.2⟩ hn) (fun _ _=>⟨y,hy,?_⟩);rcases x with s | a | a <;> rcases y with t | t | t
    ·exact hxy.elim
    ·obtain ⟨g',b',rfl,rfl,hS'⟩:=hxy;refine ⟨by omega,g',b',rfl,rfl,(show k * 16 + 16=(k + 1) * 16 by omega) ▸ hS',fun j hj => ?_⟩
     rcases Nat.lt_or_ge j k with h1 | h1
     ·exact hJ j h1
     ·rw [show j=k by omega]; exact hok
    ·exact hxy.elim
    ·exact hxy.elim
    ·exact hxy.elim
    ·exact hxy.elim
    ·exact hxy.elim
    ·exact hxy.elim
    ·obtain ⟨rfl,rfl⟩:=hxy;exact ⟨⟨1,rfl,rfl⟩,.inr rfl⟩
  ·have h1:Tri (iter (iM h b.keys b.types b.wrote b.incs b.last_ (k:Int)) ([],0)) (fun y=>p'=true→(idx h.Txns (k:Int)).Ops.length≤16→y = .inr 1) ∨ ¬ ((idx h.Txns (k:Int)).Ops.length≤16) ∨ ¬ p'=true:=by
    by_cases a3:(idx h.Txns (k:Int)).Ops.length≤16
    ·by_cases h3:p'=true
     ·refine .inl (Lj a1 (a2 k a1) a3 (fun _ _ _=>rfl) (fun q1 q2=>absurd ⟨hp1'.1 h3,q1,q2⟩ hok))
     ·exact .inr (.inr h3)
    ·exact .inr (.inl a3)
   have hend:Tri (aY h.Txns (k:Int)) (fun y=>Tri (bif !y then (out (some 1):Option (BS ⊕ Int)) else bif decide ((((idx h.Txns (k:Int)).Ops).length:Int) > 16) then out (some 1) else iter (iM h b.keys b.types b.wrote b.incs b.last_ (k:Int)) ([],0)) (fun y=>y = .inr 1)):=by
    refine ⟨p',hp',?_⟩
    repeat' (first | contradiction | with_reducible refine aA (fun hq => ?_) (fun hq => ?_) | with_reducible refine aj (by first | omega | grind [cZ]) ?_ | with_reducible refine aD ?_ | with_reducible refine dB ?_ | with_reducible refine dS ?_ | with_reducible refine dU ?_ | with_reducible refine dV ?_ | with_reducible refine ag ?_)
    ·rfl
    ·rfl
    ·rcases h1 with h1 | h1 | h1
     ·exact ib h1 (fun y hy=>hy (Decidable.of_not_not ‹¬¬p'=true›) (by omega))
     ·omega
     ·contradiction
   have hend2:∀ {Q:BS ⊕ Int→Prop},Q (.inr 1)→Tri ((aY h.Txns (k:Int)).bind fun y=>bif !y then (out (some 1):Option (BS ⊕ Int)) else bif decide ((((idx h.Txns (k:Int)).Ops).length:Int) > 16) then out (some 1) else iter (iM h b.keys b.types b.wrote b.incs b.last_ (k:Int)) ([],0)) Q:=by
    intro Q hQ;refine ed hend (fun y hy=>ib hy ?_);rintro _ rfl;exact hQ
   repeat' (first | contradiction | with_reducible refine aA (fun hq => ?_) (fun hq => ?_) | with_reducible refine aj (by first | omega | grind [cZ]) ?_ | with_reducible refine aD ?_ | with_reducible refine dB ?_ | with_reducible refine dS ?_ | with_reducible refine dU ?_ | with_reducible refine dV ?_ | with_reducible refine ag ?_ | refine bA hp ?_)
   ·refine hend2 ?_;exact ⟨⟨1,rfl,rfl⟩,.inr rfl⟩
   ·refine hend2 ?_;exact ⟨⟨1,rfl,rfl⟩,.inr rfl⟩
   ·exact absurd ⟨a5.1 (by grind),a4.1 (by grind)⟩ hok
 ·repeat' (first | contradiction | with_reducible refine aA (fun hq => ?_) (fun hq => ?_) | with_reducible refine aj (by first | omega | grind [cZ]) ?_ | with_reducible refine aD ?_ | with_reducible refine dB ?_ | with_reducible refine dS ?_ | with_reducible refine dU ?_ | with_reducible refine dV ?_ | with_reducible refine ag ?_)
  exact ⟨⟨0,rfl,rfl⟩,.inl rfl⟩
theorem Gh {h:History} (hs:qy h):Tri (aJ h) (fun v=>Tri (aF h) (fun v'=>v=v'∧(v=0∨v=1))):=by
 obtain ⟨a3,a2,a4⟩:=hs;obtain ⟨y,hy,hn⟩:=IM (l:=h.Keys) (by omega);have hT:=fun hN a1=>Qa (h:=h) ⟨a3,a2,a4⟩ hN a1;have hfail:¬ (wu h.Keys∧h.Txns.length≤32)→aF h=some 1:=by
  intro hno;refine eO.1 ?_;unfold aF jv
  simp only [cond_true,cond_false]
  repeat' (first | contradiction | with_reducible refine aA (fun hq => ?_) (fun hq => ?_) | with_reducible refine aj (by first | omega | grind [cZ]) ?_ | with_reducible refine aD ?_ | with_reducible refine dB ?_ | with_reducible refine dS ?_ | with_reducible refine dU ?_ | with_reducible refine dV ?_ | with_reducible refine ag ?_ | refine bA hy ?_)
  ·rfl
  ·rfl
  ·exact absurd ⟨hn.1 (Decidable.of_not_not ‹¬¬y=true›),by omega⟩ hno
 have hgood:wu h.Keys→h.Txns.length≤32→Tri (iter (rV h) (MK ⟨[],[],[],[],[]⟩ 0)) (fun x=>Tri (aF h) (fun v'=>x = .inr v'∧(v'=0∨v'=1))):=by
  intro hN a1;refine ib (hT hN a1) (fun x hx => ?_);unfold aF jv
  simp only [cond_true,cond_false]
  have:=hn.2 hN
  repeat' (first | contradiction | with_reducible refine aA (fun hq => ?_) (fun hq => ?_) | with_reducible refine aj (by first | omega | grind [cZ]) ?_ | with_reducible refine aD ?_ | with_reducible refine dB ?_ | with_reducible refine dS ?_ | with_reducible refine dU ?_ | with_reducible refine dV ?_ | with_reducible refine ag ?_ | refine bA hy ?_)
  ·omega
  ·refine ib hx (fun v hv => ?_);obtain ⟨⟨v2,rfl,rfl⟩,h2⟩:=hv;exact ⟨rfl,h2⟩
 have hbad:¬ (wu h.Keys∧h.Txns.length≤32)→Tri (aF h) (fun v'=>(1:Int)=v'∧((1:Int)=0∨(1:Int)=1)):=fun hno=>⟨1,hfail hno,rfl,.inr rfl⟩;unfold aJ vo
 simp only [cond_true,cond_false]
 repeat' (first | contradiction | with_reducible refine aA (fun hq => ?_) (fun hq => ?_) | with_reducible refine aj (by first | omega | grind [cZ]) ?_ | with_reducible refine aD ?_ | with_reducible refine dB ?_ | with_reducible refine dS ?_ | with_reducible refine dU ?_ | with_reducible refine dV ?_ | with_reducible refine ag ?_)
 ·exact hbad (fun hh=>by have:=hh.1.1; omega)
 ·exact hbad (fun hh=>by have:=hh.2; omega)
 ·refine tK h.Keys.length (Ey h.Keys) ?_;intro k hk hJ;unfold yD rU
  simp only [cond_true,cond_false]
  have hf:k < h.Keys.length→Tri (slices_Contains_string (jW h.Keys 0 (k:Int)) (idx h.Keys (k:Int))) (fun r=>r=true↔∃ j:Nat,j < k∧idx h.Keys (j:Int)=idx h.Keys (k:Int)):=by
   intro hk'
   rw [sO (by omega)]
   refine ib (JV (by simp; omega)) (fun r hr => ?_);have ht:(h.Keys.take k).length=k:=by simp; omega
   have hx:∀ j:Nat,j < k→idx (h.Keys.take k) (j:Int)=idx h.Keys (j:Int):=fun j h=>Df h
   rw [ht] at hr
   grind
  have he:=Kt (k:=idx h.Keys (k:Int));have hw:w64 ((k:Int) + 1)=((k + 1:Nat):Int):=aZ (by omega)
  rw [hw]
  have hNk:Ey h.Keys k↔(1≤(idx h.Keys (k:Int)).size∧(idx h.Keys (k:Int)).size≤32∧∀ j:Nat,j < k→idx h.Keys (j:Int)≠idx h.Keys (k:Int)):=Iff.rfl;have hno:k < h.Keys.length → ¬ Ey h.Keys k → ¬ (wu h.Keys∧h.Txns.length≤32):=fun h1 h2 h3=>h2 (h3.1.2 k h1);refine aA (fun a5 => ?_) (fun a5 => ?_)
  ·refine aj (by omega) ?_
   repeat' (first | contradiction | with_reducible refine aA (fun hq => ?_) (fun hq => ?_) | with_reducible refine aj (by first | omega | grind [cZ]) ?_ | with_reducible refine aD ?_ | with_reducible refine dB ?_ | with_reducible refine dS ?_ | with_reducible refine dU ?_ | with_reducible refine dV ?_ | with_reducible refine ag ?_ | refine ed (hf (by omega)) (fun r hr => ?_))
   ·exact hbad (hno (by omega) (by grind))
   ·exact hbad (hno (by omega) (by grind))
   ·exact hbad (hno (by omega) (by grind))
   ·exact ⟨rfl,by omega,by grind⟩
  ·have hN:wu h.Keys:=⟨by omega,fun i hi=>hJ i (by omega)⟩
   unfold uu;refine dB ?_;obtain ⟨x,hx,v,hv,hq⟩:=hgood hN (by omega);obtain ⟨rfl,h2⟩:=hq;exact ⟨_,hx,v,hv,rfl,h2⟩
end Go.Proofs.YtfpeabnehpclnaaGreatT
namespace Go.Proofs.YtfpeabnehpclnaaGreatT
open Go Go.Proofs Go.Proofs.YtfpeabnehpclnaaGreatE
set_option linter.unusedVariables false
set_option linter.unusedSimpArgs false
def ww (l:List Int) (c:Call) (w:Int) (s:ByteArray):List Int:=if c.Kind=4∧c.Key=s∧(l.length=0∨idx l ((l.length - 1:Nat):Int)≠w) then l++[w] else l
def qz (E:List (Call×Int)) (s:ByteArray):List Int:=E.foldl (fun l e=>ww l e.1 e.2 s) []
theorem Gi {E:List (Call×Int)} {c:Call} {w:Int} {s:ByteArray}:qz (E++[(c,w)]) s=ww (qz E s) c w s:=by
 unfold qz; rw [List.foldl_append]; rfl
theorem yO {l:List Int} {c:Call} {w:Int} {s:ByteArray} (h:¬ (c.Kind=4∧c.Key=s)):ww l c w s=l:=by
 unfold ww; rw [if_neg (fun hh=>h ⟨hh.1,hh.2.1⟩)]
def RN (E:List (Call×Int)) (c:Call) (w:Int):Prop :=
 ((c.Kind=2∨c.Kind=3)→∀ e ∈ E,e.1.Key=c.Key→(e.1.Kind=2∨e.1.Kind=3)→e.1.Arg≠c.Arg)∧(c.Kind=4→(ww (qz E c.Key) c w c.Key).length≤8)
def Pm (E:List (Call×Int)) (c:Call) (w:Int):Prop:=(∀ e ∈ E,e.1.Key=c.Key→typ e.1.Kind=typ c.Kind)∧RN E c w
structure BookInv0 (E:List (Call×Int)) (b:aR):Prop where
 tl:b.types.length=b.keys.length
 wl:b.wrote.length=b.keys.length
 il:b.incs.length=b.keys.length
 ll:b.last_.length=b.keys.length
 nd:∀ i j:Nat,i < b.keys.length→j < b.keys.length→idx b.keys (i:Int)=idx b.keys (j:Int)→i=j
 ks:∀ e ∈ E,∃ j:Nat,j < b.keys.length∧idx b.keys (j:Int)=e.1.Key
 ty:∀ e ∈ E,∀ j:Nat,j < b.keys.length→idx b.keys (j:Int)=e.1.Key→idx b.types (j:Int)=typ e.1.Kind
 wr:∀ j:Nat,j < b.keys.length→∀ a,(∃ m:Nat,m < (idx b.wrote (j:Int)).length∧idx (idx b.wrote (j:Int)) (m:Int)=a)↔∃ e ∈ E,e.1.Key=idx b.keys (j:Int)∧(e.1.Kind=2∨e.1.Kind=3)∧e.1.Arg=a
 wn:∀ j:Nat,j < b.keys.length→(idx b.wrote (j:Int)).length≤E.length
 ic:∀ j:Nat,j < b.keys.length→idx b.incs (j:Int)=((qz E (idx b.keys (j:Int))).length:Int)
 i8:∀ j:Nat,j < b.keys.length→(qz E (idx b.keys (j:Int))).length≤8
 io:∀ s,(∀ j:Nat,j < b.keys.length→idx b.keys (j:Int)≠s)→qz E s=[]
 la:∀ j:Nat,j < b.keys.length→((qz E (idx b.keys (j:Int))).length=0→idx b.last_ (j:Int) = -1) ∧
  (0 < (qz E (idx b.keys (j:Int))).length→idx b.last_ (j:Int)=idx (qz E (idx b.keys (j:Int))) (((qz E (idx b.keys (j:Int))).length - 1:Nat):Int))
theorem BookInv0.start:BookInv0 [] ⟨[],[],[],[],[]⟩:=by
 refine ⟨rfl,rfl,rfl,rfl,?_,?_,?_,?_,?_,?_,?_,?_,?_⟩
 all_goals simp [qz]
theorem BookInv0.new {E:List (Call×Int)} {b:aR} (h:BookInv0 E b) {s:ByteArray} {t:Int} (hn:∀ j:Nat,j < b.keys.length→idx b.keys (j:Int)≠s) :
  BookInv0 E ⟨b.keys++[s],b.types++[t],b.wrote++[[]],b.incs++[0],b.last_++[-1]⟩:=by
 have hl:(b.keys++[s]).length=b.keys.length + 1:=by simp
 have k1:∀ j:Nat,j < b.keys.length→idx (b.keys++[s]) (j:Int)=idx b.keys (j:Int):=fun j hj=>oh hj;have k2:idx (b.keys++[s]) ((b.keys.length:Nat):Int)=s:=nk rfl;have t1:∀ j:Nat,j < b.keys.length→idx (b.types++[t]) (j:Int)=idx b.types (j:Int):=fun j hj=>oh (by rw [h.tl]; exact hj);have w1:∀ j:Nat,j < b.keys.length→idx (b.wrote++[[]]) (j:Int)=idx b.wrote (j:Int):=fun j hj=>oh (by rw [h.wl]; exact hj);have w2:idx (b.wrote++[[]]) ((b.keys.length:Nat):Int)=[]:=nk h.wl.symm;have i1:∀ j:Nat,j < b.keys.length→idx (b.incs++[0]) (j:Int)=idx b.incs (j:Int):=fun j hj=>oh (by rw [h.il]; exact hj);have i2:idx (b.incs++[0]) ((b.keys.length:Nat):Int)=0:=nk h.il.symm;have l1:∀ j:Nat,j < b.keys.length→idx (b.last_++[-1]) (j:Int)=idx b.last_ (j:Int):=fun j hj=>oh (by rw [h.ll]; exact hj);have l2:idx (b.last_++[-1]) ((b.keys.length:Nat):Int) = -1:=nk h.ll.symm;have ho:=h.io s hn;have hne:∀ e ∈ E,e.1.Key≠s:=fun e he hs=>by
  obtain ⟨j,hj,hk⟩:=h.ks e he;exact hn j hj (hk.trans hs)
 have cut:∀ j:Nat,j < b.keys.length + 1→j < b.keys.length∨j=b.keys.length:=by omega
 refine ⟨by simp [h.tl],by simp [h.wl],by simp [h.il],by simp [h.ll],?_,?_,?_,?_,?_,?_,?_,?_,?_⟩
 ·intro i j hi hj he
  dsimp only at hi hj he
  rw [hl] at hi hj
  have:=h.nd i j;rcases cut i hi with hi' | hi' <;> rcases cut j hj with hj' | hj' <;> grind
 ·intro e he;obtain ⟨j,hj,hk⟩:=h.ks e he;exact ⟨j,by simp; omega,(k1 j hj).trans hk⟩
 ·intro e he j hj hk
  dsimp only at hj hk ⊢
  rw [hl] at hj
  rcases cut j hj with hj' | hj'
  ·rw [k1 j hj'] at hk; rw [t1 j hj']; exact h.ty e he j hj' hk
  ·subst hj'; rw [k2] at hk; exact absurd hk.symm (hne e he)
 ·intro j hj a
  dsimp only at hj ⊢
  rw [hl] at hj
  rcases cut j hj with hj' | hj'
  ·rw [k1 j hj',w1 j hj']; exact h.wr j hj' a
  ·subst hj'
   rw [k2,w2]
   constructor
   ·rintro ⟨m,hm,_⟩; simp at hm
   ·rintro ⟨e,he,hk,_⟩; exact absurd hk (hne e he)
 ·intro j hj
  dsimp only at hj ⊢
  rw [hl] at hj
  rcases cut j hj with hj' | hj'
  ·rw [w1 j hj']; exact h.wn j hj'
  ·subst hj'; rw [w2]; simp
 ·intro j hj
  dsimp only at hj ⊢
  rw [hl] at hj
  rcases cut j hj with hj' | hj'
  ·rw [k1 j hj',i1 j hj']; exact h.ic j hj'
  ·subst hj'; rw [k2,i2,ho]; rfl
 ·intro j hj
  dsimp only at hj ⊢
  rw [hl] at hj
  rcases cut j hj with hj' | hj'
  ·rw [k1 j hj']; exact h.i8 j hj'
  ·subst hj'; rw [k2,ho]; simp
 ·intro x hx
  dsimp only at hx ⊢
  rw [hl] at hx
  exact h.io x (fun j hj=>by rw [← k1 j hj]; exact hx j (by omega))
 ·intro j hj
  dsimp only at hj ⊢
  rw [hl] at hj
  rcases cut j hj with hj' | hj'
  ·rw [k1 j hj',l1 j hj']; exact h.la j hj'
  ·subst hj'; rw [k2,l2,ho]; simp
theorem kF {E:List (Call×Int)} {c:Call} {w:Int} {e:Call×Int}:e ∈ E++[(c,w)]↔e ∈ E∨e=(c,w):=by simp
theorem BookInv0.same {E:List (Call×Int)} {b:aR} {c:Call} {w:Int} {k:Nat} (h:BookInv0 E b) (hk:k < b.keys.length) (hs:idx b.keys (k:Int)=c.Key) (ht:idx b.types (k:Int)=typ c.Kind)
  (h2:c.Kind≠2) (h3:c.Kind≠3) (hw:ww (qz E c.Key) c w c.Key=qz E c.Key):BookInv0 (E++[(c,w)]) b:=by
 have hws:∀ s,qz (E++[(c,w)]) s=qz E s:=fun s=>by
  rw [Gi]
  by_cases e:c.Kind=4∧c.Key=s
  ·rw [← e.2]; exact hw
  ·exact yO e
 refine ⟨h.tl,h.wl,h.il,h.ll,h.nd,?_,?_,?_,?_,?_,?_,?_,?_⟩
 ·intro e he;rcases kF.1 he with he | rfl
  ·exact h.ks e he
  ·exact ⟨k,hk,hs⟩
 ·intro e he j hj hkj;rcases kF.1 he with he | rfl
  ·exact h.ty e he j hj hkj
  ·have:=h.nd j k hj hk (hkj.trans hs.symm);subst this;exact ht
 ·intro j hj a
  rw [h.wr j hj a]
  constructor
  ·rintro ⟨e,he,r⟩; exact ⟨e,kF.2 (.inl he),r⟩
  ·rintro ⟨e,he,r⟩;rcases kF.1 he with he | rfl
   ·exact ⟨e,he,r⟩
   ·rcases r.2.1 with r | r <;> contradiction
 ·intro j hj;have:=h.wn j hj
  simp; omega
 ·intro j hj; rw [hws]; exact h.ic j hj
 ·intro j hj; rw [hws]; exact h.i8 j hj
 ·intro s hs'; rw [hws]; exact h.io s hs'
 ·intro j hj; rw [hws]; exact h.la j hj
theorem BookInv0.write {E:List (Call×Int)} {b:aR} {c:Call} {w:Int} {k:Nat} (h:BookInv0 E b) (hk:k < b.keys.length) (hs:idx b.keys (k:Int)=c.Key) (ht:idx b.types (k:Int)=typ c.Kind)
  (a1:c.Kind=2∨c.Kind=3):BookInv0 (E++[(c,w)]) ⟨b.keys,b.types,b.wrote.set k (idx b.wrote (k:Int)++[c.Arg]),b.incs,b.last_⟩:=by
 have hws:∀ s,qz (E++[(c,w)]) s=qz E s:=fun s=>by
  rw [Gi]
  exact yO (fun e=>by omega)
 have w1:∀ j:Nat,idx (b.wrote.set k (idx b.wrote (k:Int)++[c.Arg])) (j:Int)=if j=k then idx b.wrote (k:Int)++[c.Arg] else idx b.wrote (j:Int):=fun j=>xI (by rw [h.wl]; exact hk);refine ⟨h.tl,by simp [h.wl],h.il,h.ll,h.nd,?_,?_,?_,?_,?_,?_,?_,?_⟩
 ·intro e he;rcases kF.1 he with he | rfl
  ·exact h.ks e he
  ·exact ⟨k,hk,hs⟩
 ·intro e he j hj hkj;rcases kF.1 he with he | rfl
  ·exact h.ty e he j hj hkj
  ·have:=h.nd j k hj hk (hkj.trans hs.symm);subst this;exact ht
 ·intro j hj a
  dsimp only at hj ⊢
  rw [w1 j]
  have hold:=h.wr j hj a
  by_cases e:j=k
  ·subst e
   rw [if_pos rfl]
   constructor
   ·rintro ⟨m,hm,he⟩;rcases Nat.lt_or_ge m (idx b.wrote (j:Int)).length with h1 | h1
    ·rw [oh h1] at he
     obtain ⟨e,he',r⟩:=hold.1 ⟨m,h1,he⟩;exact ⟨e,kF.2 (.inl he'),r⟩
    ·simp at hm
     rw [nk (by omega)] at he
     exact ⟨(c,w),kF.2 (.inr rfl),hs.symm,a1,he⟩
   ·rintro ⟨e,he,r⟩;rcases kF.1 he with he | rfl
    ·obtain ⟨m,hm,hh⟩:=hold.2 ⟨e,he,r⟩;exact ⟨m,by simp; omega,(oh hm).trans hh⟩
    ·exact ⟨_,by simp,(nk rfl).trans r.2.2⟩
  ·rw [if_neg e,hold]
   constructor
   ·rintro ⟨e,he,r⟩; exact ⟨e,kF.2 (.inl he),r⟩
   ·rintro ⟨e',he,r⟩;rcases kF.1 he with he | rfl
    ·exact ⟨e',he,r⟩
    ·exact absurd (h.nd j k hj hk (r.1.symm.trans hs.symm)) e
 ·intro j hj
  dsimp only at hj ⊢
  rw [w1 j]
  have:=h.wn j hj
  split
  ·rename_i e; subst e; simp; omega
  ·simp; omega
 ·intro j hj; rw [hws]; exact h.ic j hj
 ·intro j hj; rw [hws]; exact h.i8 j hj
 ·intro s hs'; rw [hws]; exact h.io s hs'
 ·intro j hj; rw [hws]; exact h.la j hj
theorem BookInv0.inc {E:List (Call×Int)} {b:aR} {c:Call} {w:Int} {k:Nat} (h:BookInv0 E b) (hk:k < b.keys.length) (hs:idx b.keys (k:Int)=c.Key) (ht:idx b.types (k:Int)=typ c.Kind)
  (h4:c.Kind=4) (hw:ww (qz E c.Key) c w c.Key=qz E c.Key++[w]) (h8:(qz E c.Key).length + 1≤8) :
  BookInv0 (E++[(c,w)]) ⟨b.keys,b.types,b.wrote,b.incs.set k (idx b.incs (k:Int) + 1),b.last_.set k w⟩:=by
 have hws:∀ s,qz (E++[(c,w)]) s=if c.Key=s then qz E s++[w] else qz E s:=fun s=>by
  rw [Gi]
  by_cases e:c.Key=s
  ·rw [if_pos e,← e]; exact hw
  ·rw [if_neg e]; exact yO (fun hh=>e hh.2)
 have i1:∀ j:Nat,idx (b.incs.set k (idx b.incs (k:Int) + 1)) (j:Int)=if j=k then idx b.incs (k:Int) + 1 else idx b.incs (j:Int):=fun j=>xI (by rw [h.il]; exact hk);have l1:∀ j:Nat,idx (b.last_.set k w) (j:Int)=if j=k then w else idx b.last_ (j:Int):=fun j=>xI (by rw [h.ll]; exact hk);have hne:∀ j:Nat,j < b.keys.length→(c.Key=idx b.keys (j:Int)↔j=k):=fun j hj=>⟨fun e=>h.nd j k hj hk (e.symm.trans hs.symm),fun e=>by rw [e,hs]⟩
 refine ⟨h.tl,h.wl,by simp [h.il],by simp [h.ll],h.nd,?_,?_,?_,?_,?_,?_,?_,?_⟩
 ·intro e he;rcases kF.1 he with he | rfl
  ·exact h.ks e he
  ·exact ⟨k,hk,hs⟩
 ·intro e he j hj hkj;rcases kF.1 he with he | rfl
  ·exact h.ty e he j hj hkj
  ·have:=h.nd j k hj hk (hkj.trans hs.symm);subst this;exact ht
 ·intro j hj a
  dsimp only at hj ⊢
  rw [h.wr j hj a]
  constructor
  ·rintro ⟨e,he,r⟩; exact ⟨e,kF.2 (.inl he),r⟩
  ·rintro ⟨e,he,r⟩;rcases kF.1 he with he | rfl
   ·exact ⟨e,he,r⟩
   ·have:=r.2.1; dsimp only at this; omega
 ·intro j hj;have:=h.wn j hj
  simp; omega
 ·intro j hj
  dsimp only at hj ⊢
  have:=h.ic j hj
  rw [hws,i1 j]
  by_cases e:j=k
  ·rw [if_pos e,if_pos ((hne j hj).2 e)]; subst e; simp; omega
  ·rw [if_neg e,if_neg (fun hh=>e ((hne j hj).1 hh))]; exact this
 ·intro j hj
  dsimp only at hj ⊢
  rw [hws]
  by_cases e:j=k
  ·rw [if_pos ((hne j hj).2 e)]; subst e; rw [hs]; simp; omega
  ·rw [if_neg (fun hh=>e ((hne j hj).1 hh))]; exact h.i8 j hj
 ·intro s hs'
  dsimp only at hs'
  rw [hws,if_neg (fun e=>hs' k hk (hs.trans e))]
  exact h.io s hs'
 ·intro j hj
  dsimp only at hj ⊢
  rw [hws,l1 j]
  by_cases e:j=k
  ·rw [if_pos e,if_pos ((hne j hj).2 e)]
   refine ⟨fun h0=>by simp at h0,fun _ => ?_⟩
   rw [nk (by simp)]
  ·rw [if_neg e,if_neg (fun hh=>e ((hne j hj).1 hh))]; exact h.la j hj
theorem Pn {E:List (Call×Int)} {b:aR} {c:Call} {w:Int} {k:Nat} (h:BookInv0 E b) (hk:k < b.keys.length) (hs:idx b.keys (k:Int)=c.Key) (ht:idx b.types (k:Int)=typ c.Kind)
  (h1:1≤c.Kind) (h8:c.Kind≤8) (hw:0≤w) (hE:E.length≤4096) :
  Tri (fH c w b.keys b.types b.wrote b.incs b.last_ (k:Int)) (fun r=>(r.1=0↔RN E c w)∧(r.1=0→BookInv0 (E++[(c,w)]) r.2∧r.2.keys=b.keys∧r.2.types=b.types)):=by
 have hin:=h.ic k hk;have a1:=h.i8 k hk;have hla:=h.la k hk;have hwr:=h.wr k hk c.Arg;have hwn:=h.wn k hk
 rw [hs] at hin a1 hla hwr
 refine ib (Li (who:=w) hk h.tl h.wl h.il h.ll (by omega) (by omega) h1 h8) (fun r hr => ?_);have stay:∀ {l:List Int},ww (qz E c.Key) c w c.Key=l→l=if c.Kind=4∧((qz E c.Key).length=0∨idx (qz E c.Key) (((qz E c.Key).length - 1:Nat):Int)≠w) then qz E c.Key++[w] else qz E c.Key:=by
  rintro l rfl;unfold ww
  simp
 have st:=stay rfl;rcases hr with ⟨a,rfl⟩ | ⟨_,b1,b2,rfl⟩ | ⟨_,b1,b2,rfl⟩ | ⟨_,b1,b2,b3,b4⟩ | ⟨_,b1,b2,b3,rfl⟩ | ⟨_,b1,b2,rfl⟩ | ⟨_,b1,b2,b3,rfl⟩
 ·exact absurd ht a
 ·refine ⟨⟨fun h=>by simp at h,fun hh => ?_⟩,fun h=>by simp at h⟩
  obtain ⟨e,he,r1,r2,r3⟩:=hwr.1 b2;exact absurd r3 (hh.1 b1 e he r1 r2)
 ·refine ⟨⟨fun _=>⟨fun _ e he r1 r2 r3=>b2 (hwr.2 ⟨e,he,r1,r2,r3⟩),fun h4=>by omega⟩,fun _=>rfl⟩,fun _=>⟨h.write hk hs ht b1,rfl,rfl⟩⟩
 ·have hne:(qz E c.Key).length=0∨idx (qz E c.Key) (((qz E c.Key).length - 1:Nat):Int)≠w:=by grind
  rw [if_pos ⟨b1,hne⟩] at st
  refine ⟨⟨fun h0=>by omega,fun hh => ?_⟩,fun h0=>by omega⟩
  have:=hh.2 b1
  rw [st] at this
  simp at this
  omega
 ·have hne:(qz E c.Key).length=0∨idx (qz E c.Key) (((qz E c.Key).length - 1:Nat):Int)≠w:=by grind
  rw [if_pos ⟨b1,hne⟩] at st
  refine ⟨⟨fun _=>⟨fun h=>by omega,fun _=>by rw [st]; simp; omega⟩,fun _=>rfl⟩,fun _=>⟨h.inc hk hs ht b1 st (by omega),rfl,rfl⟩⟩
 ·have hne:¬ ((qz E c.Key).length=0∨idx (qz E c.Key) (((qz E c.Key).length - 1:Nat):Int)≠w):=by grind
  rw [if_neg (fun hh=>hne hh.2)] at st
  refine ⟨⟨fun _=>⟨fun h=>by omega,fun _=>by rw [st]; exact a1⟩,fun _=>rfl⟩,fun _=>⟨h.same hk hs ht (by omega) (by omega) st,rfl,rfl⟩⟩
 ·rw [if_neg (fun hh=>b3 hh.1)] at st
  refine ⟨⟨fun _=>⟨fun h=>by omega,fun h=>by omega⟩,fun _=>rfl⟩,fun _=>⟨h.same hk hs ht b1 b2 st,rfl,rfl⟩⟩
structure wy (E:List (Call×Int)) (b:aR):Prop extends BookInv0 E b where
 len:b.keys.length≤32
 kex:∀ j:Nat,j < b.keys.length→∃ e ∈ E,e.1.Key=idx b.keys (j:Int)
theorem wy.start:wy [] ⟨[],[],[],[],[]⟩:=⟨BookInv0.start,by simp,fun j hj=>by simp at hj⟩
theorem Qb {E:List (Call×Int)} {b:aR} {c:Call} {w:Int} (h:wy E b) (hroom:b.keys.length=32→∃ j:Nat,j < b.keys.length∧idx b.keys (j:Int)=c.Key)
  (h1:1≤c.Kind) (h8:c.Kind≤8) (hw:0≤w) (hE:E.length≤4096) :
  Tri (az b c w) (fun r=>(r.1=0↔Pm E c w)∧(r.1=0→wy (E++[(c,w)]) r.2)):=by
 have hl:=h.len;have t1:=h.tl;have t2:=h.wl;have t3:=h.il;have t4:=h.ll;obtain ⟨r0,a6,hf⟩:=Gg (l:=b.keys) (s:=c.Key) (by omega);unfold az
 rw [a6]
 refine dB ?_;rcases hf with ⟨rfl,hno⟩ | ⟨k,rfl,a1,a2,_⟩
 ·refine aA (fun _ => ?_) (fun hh=>by omega);refine aA (fun a5 => ?_) (fun a5 => ?_)
  ·obtain ⟨j,hj,he⟩:=hroom (by omega);exact absurd he (hno j hj)
  ·have hn:=h.toBookInv0.new (s:=c.Key) (t:=typ c.Kind) hno;have hat:=Pn (w:=w) hn (k:=b.keys.length) (by simp) (nk rfl) (nk t1.symm) h1 h8 hw hE;have hne:∀ e ∈ E,e.1.Key≠c.Key:=fun e he hs=>by
    obtain ⟨j,hj,hk⟩:=h.ks e he;exact hno j hj (hk.trans hs)
   unfold ku kr
   simp only [Dr h1 h8]
   refine aj (by omega) (dB (aj (by omega) (aj (by omega) (aj (by omega) (aj (by omega) ?_)))));refine ib hat (fun r hr => ?_);refine ⟨hr.1.trans ⟨fun hh=>⟨fun e he hs=>absurd hs (hne e he),hh⟩,fun hh=>hh.2⟩,fun h0 => ?_⟩;obtain ⟨q1,q2,q3⟩:=hr.2 h0;refine ⟨q1,by rw [q2]; simp; omega,fun j hj => ?_⟩
   rw [q2] at hj ⊢
   have hj:j < b.keys.length + 1:=by simpa using hj
   rcases (by omega:j < b.keys.length∨j=b.keys.length) with hj' | hj'
   ·obtain ⟨e,he,hk⟩:=h.kex j hj';exact ⟨e,kF.2 (.inl he),by rw [hk]; exact (oh hj').symm⟩
   ·subst hj';exact ⟨(c,w),kF.2 (.inr rfl),(nk rfl).symm⟩
 ·refine aA (fun hh=>by omega) (fun _ => ?_);obtain ⟨e0,a4,a3⟩:=h.kex k a1;have hty:=h.ty e0 a4 k a1 a3.symm
  by_cases ht:idx b.types (k:Int)=typ c.Kind
  ·have hat:=Pn (w:=w) h.toBookInv0 a1 a2 ht h1 h8 hw hE;refine ib hat (fun r hr => ?_);refine ⟨hr.1.trans ⟨fun hh=>⟨fun e he hs => ?_,hh⟩,fun hh=>hh.2⟩,fun h0 => ?_⟩
   ·exact (h.ty e he k a1 (a2.trans hs.symm)).symm.trans ht
   ·obtain ⟨q1,q2,q3⟩:=hr.2 h0;refine ⟨q1,by rw [q2]; exact hl,fun j hj => ?_⟩
    rw [q2] at hj ⊢
    obtain ⟨e,he,hk⟩:=h.kex j hj;exact ⟨e,kF.2 (.inl he),hk⟩
  ·have hin:=h.ic k a1;have a7:=h.i8 k a1;have hwn:=h.wn k a1;refine ib (Li (who:=w) a1 t1 t2 t3 t4 (by omega) (by omega) h1 h8) (fun r hr => ?_);have hno:¬ Pm E c w:=fun hh=>ht (hty.trans (hh.1 e0 a4 (a3.trans a2)));rcases hr with ⟨a,rfl⟩ | ⟨a,_⟩ | ⟨a,_⟩ | ⟨a,_⟩ | ⟨a,_⟩ | ⟨a,_⟩ | ⟨a,_⟩
   ·exact ⟨⟨fun h=>by simp at h,fun hh=>absurd hh hno⟩,fun h=>by simp at h⟩
   all_goals exact absurd a ht
def Ei (h:History) (i:Nat):List (Call×Int):=(eG h (idx h.Txns (i:Int))).map (fun c=>(c,(i:Int)))
def xU (h:History) (k:Nat):List (Call×Int):=(List.range k).flatMap (Ei h)
theorem yP {h:History} {k:Nat}:xU h (k + 1)=xU h k++Ei h k:=by
 unfold xU; rw [List.range_succ,List.flatMap_append]; simp
def uP (E L:List (Call×Int)):Prop:=∀ j:Nat,j < L.length→Pm (E++L.take j) (idx L (j:Int)).1 (idx L (j:Int)).2
theorem uP.append {E L M:List (Call×Int)}:uP E (L++M)↔uP E L∧uP (E++L) M:=by
 constructor
 ·intro h;refine ⟨fun j hj => ?_,fun j hj => ?_⟩
  ·have:=h j (by simp; omega)
   rwa [oh hj,List.take_append_of_le_length (by omega)] at this
  ·have:=h (L.length + j) (by simp; omega)
   rw [List.take_append,List.take_of_length_le (by omega),show L.length + j - L.length=j by omega,← List.append_assoc] at this
   rwa [show idx (L++M) ((L.length + j:Nat):Int)=idx M (j:Int) from by
    rw [dK rfl (by simp; omega),dK rfl hj,List.getElem_append_right (by omega)]; congr 1; omega] at this
 ·rintro ⟨h1,h2⟩ j hj;rcases Nat.lt_or_ge j L.length with h3 | h3
  ·rw [oh h3,List.take_append_of_le_length (by omega)]; exact h1 j h3
  ·obtain ⟨i,rfl⟩:∃ i,j=L.length + i:=⟨j - L.length,by omega⟩
   have hi:i < M.length:=by simp at hj; omega
   have:=h2 i hi
   rw [List.take_append,List.take_of_length_le (by omega),show L.length + i - L.length=i by omega,← List.append_assoc]
   rwa [show idx (L++M) ((L.length + i:Nat):Int)=idx M (i:Int) from by
    rw [dK rfl (by simp; omega),dK rfl hi,List.getElem_append_right (by omega)]; congr 1; omega]
theorem room {K l:List ByteArray} {s:ByteArray} (hK:K.length≤32) (hl:l.length=32) (nd:∀ i j:Nat,i < l.length→j < l.length→idx l (i:Int)=idx l (j:Int)→i=j)
  (hs:s ∈ K) (hsub:∀ x ∈ l,x ∈ K):∃ j:Nat,j < l.length∧idx l (j:Int)=s:=by
 have hnd:l.Nodup:=by
  rw [List.nodup_iff_pairwise_ne,List.pairwise_iff_getElem]
  intro i j hi hj hij he;have:=nd i j hi hj (by rw [dK rfl hi,dK rfl hj]; exact he)
  omega
 by_cases h:s ∈ l
 ·obtain ⟨j,hj,he⟩:=List.getElem_of_mem h;exact ⟨j,hj,(dK rfl hj).trans he⟩
 ·have h1:(s::l).Nodup:=List.nodup_cons.2 ⟨h,hnd⟩;have h2:=h1.length_le_of_subset (l₂:=K) (fun x hx=>by
   rcases List.mem_cons.1 hx with rfl | hx
   ·exact hs
   ·exact hsub x hx)
  simp at h2
  omega
def InK (K:List ByteArray) (E:List (Call×Int)):Prop:=∀ e ∈ E,e.1.Key ∈ K
theorem wy.sub {K:List ByteArray} {E:List (Call×Int)} {b:aR} (h:wy E b) (hE:InK K E):∀ x ∈ b.keys,x ∈ K:=by
 intro x hx;obtain ⟨j,hj,rfl⟩:=List.getElem_of_mem hx;obtain ⟨e,he,hk⟩:=h.kex j hj;have:=hE e he
 rw [hk,dK rfl hj] at this
 exact this
theorem NZ {K:List ByteArray} {E:List (Call×Int)} {b:aR} {i:Nat} {l:List Call} (h:wy E b) (hK:K.length≤32) (hEK:InK K E) (hlK:∀ c ∈ l,c.Key ∈ K) (hl:l.length≤16) (hi:i < 64) (hn:E.length≤1024)
  (hc:zt l (fun c=>1≤c.Kind∧c.Kind≤8)) :
  Tri (iter (iL (i:Int) l) (Fg b 0)) (fun x=>(uP E (l.map (fun c=>(c,(i:Int))))→∃ b',x = .inr (.inl (Fg b' ((i + 1:Nat):Int)))∧wy (E++l.map (fun c=>(c,(i:Int)))) b') ∧
   (¬ uP E (l.map (fun c=>(c,(i:Int))))→x = .inr (.inr 1))):=by
 generalize hm:l.map (fun c=>(c,(i:Int)))=m;have hml:m.length=l.length:=by rw [← hm]; simp
 have hmi:∀ k:Nat,k < l.length→idx m (k:Int)=(idx l (k:Int),(i:Int)):=fun k hk=>by rw [← hm,BG hk]
 refine bX (k0:=0) l.length (fun k s=>∃ b',s=Fg b' (k:Int)∧wy (E++m.take k) b'∧∀ j:Nat,j < k→Pm (E++m.take j) (idx m (j:Int)).1 (idx m (j:Int)).2) (Nat.zero_le _) ⟨b,rfl,by simpa using h,fun j hj=>absurd hj (Nat.not_lt_zero _)⟩ ?_
 rintro k s hk ⟨b',rfl,hb,hJ⟩;unfold iL Fg
 dsimp only
 refine aA (fun a2 => ?_) (fun a2 => ?_)
 ·have a1:k < l.length:=by omega
  have hin:InK K (E++m.take k):=fun e he=>by
   rcases List.mem_append.1 he with he | he
   ·exact hEK e he
   ·have:=List.mem_of_mem_take he
    rw [← hm] at this
    obtain ⟨c,hc,rfl⟩:=List.mem_map.1 this;exact hlK c hc
  have hcK:(idx l (k:Int)).Key ∈ K:=hlK _ (by rw [dK rfl a1]; exact List.getElem_mem a1);have hw:w64 ((k:Int) + 1)=((k + 1:Nat):Int):=aZ (by omega);obtain ⟨r,hr,q1,q2⟩:=Qb (c:=idx l (k:Int)) (w:=(i:Int)) hb (fun a3=>room hK a3 hb.nd hcK (hb.sub hin)) (hc k a1).1 (hc k a1).2 (by omega) (by simp; omega);refine aj (by omega) (bA hr ?_);refine aA (fun h0 => ?_) (fun h0 => ?_)
  ·refine aD (aD (aD (ag ⟨fun hall => ?_,fun _=>rfl⟩)));have:=hall k (by omega)
   rw [hmi k a1] at this
   exact absurd (q1.2 this) h0
  ·refine ag ⟨a1,r.2,?_,?_,?_⟩
   ·rw [hw]
   ·rw [tL (by omega),hmi k a1,← List.append_assoc]
    exact q2 (by omega)
   ·intro j hj;rcases Nat.lt_or_ge j k with h1 | h1
    ·exact hJ j h1
    ·rw [show j=k by omega,hmi k a1]; exact q1.1 (by omega)
 ·have hw:w64 ((i:Int) + 1)=((i + 1:Nat):Int):=aZ (by omega)
  rw [hw]
  have hfull:m.take k=m:=List.take_of_length_le (by omega)
  rw [hfull] at hb
  refine aD (aD (ag ⟨fun _=>⟨b',rfl,hb⟩,fun hno=>absurd (fun j hj=>hJ j (by omega)) hno⟩))
structure fw (h:History):Prop where
 names:wu h.Keys
 len:h.Txns.length≤32
 txn:∀ i:Nat,i < h.Txns.length→Fh h i
 ents:uP [] (xU h h.Txns.length)
theorem keys_in {h:History} {i:Nat} (hi:BA h (idx h.Txns (i:Int))):∀ c ∈ eG h (idx h.Txns (i:Int)),c.Key ∈ h.Keys:=by
 intro c hc;obtain ⟨o,ho,rfl⟩:=List.mem_map.1 hc;have:=(De.1 hi) o ho
 show idx h.Keys o.Key ∈ h.Keys
 rw [dK (n:=o.Key.toNat) (by omega) (by omega)]
 exact List.getElem_mem _
theorem Qc {h:History} {i:Nat} (hi:Fh h i):(Ei h i).length≤16:=by
 have:=hi.2.2.2.2.1
 simpa [Ei,Ec,eG] using this
theorem Hw {h:History} (hs:qy h):Tri (aF h) (fun v=>(v=0↔fw h)∧(v=0∨v=1)):=by
 obtain ⟨a6,a5,a3⟩:=hs;obtain ⟨y,hy,hn⟩:=IM (l:=h.Keys) (by omega);unfold aF jv
 simp only [cond_true,cond_false]
 repeat' (first | contradiction | with_reducible refine aA (fun hq => ?_) (fun hq => ?_) | with_reducible refine aj (by first | omega | grind [cZ]) ?_ | with_reducible refine aD ?_ | with_reducible refine dB ?_ | with_reducible refine dS ?_ | with_reducible refine dU ?_ | with_reducible refine dV ?_ | with_reducible refine ag ?_ | refine bA hy ?_)
 ·exact ⟨⟨fun h=>absurd h (by decide),fun hS=>absurd (hn.2 hS.names) ‹¬y=true›⟩,.inr rfl⟩
 ·exact ⟨⟨fun h=>absurd h (by decide),fun hS=>absurd hS.len (by omega)⟩,.inr rfl⟩
 ·have hN:wu h.Keys:=hn.1 (Decidable.of_not_not ‹¬¬y=true›);have a2:h.Txns.length≤32:=by omega
  refine bX (k0:=0) h.Txns.length (fun k s=>∃ b,s=Fg b (k:Int)∧wy (xU h k) b∧InK h.Keys (xU h k)∧(xU h k).length≤16 * k∧uP [] (xU h k)∧∀ j:Nat,j < k→Fh h j) (Nat.zero_le _)
   ⟨⟨[],[],[],[],[]⟩,rfl,wy.start,fun e he=>by simp [xU] at he,by simp [xU],fun j hj=>by simp [xU] at hj,fun j hj=>absurd hj (Nat.not_lt_zero _)⟩ ?_
  rintro k s hk ⟨b,rfl,hb,hin,hlen,hents,hJ⟩;unfold kZ kY Fg
  simp only [cond_true,cond_false]
  have hbad:(k < h.Txns.length → ¬ Fh h k)→k < h.Txns.length → ¬ fw h:=fun h1 h2 hS=>h1 h2 (hS.txn k h2);refine aA (fun a4 => ?_) (fun a4 => ?_)
  ·have a1:k < h.Txns.length:=by omega
   obtain ⟨p',hp',hp1'⟩:=BU (l:=h.Txns) a1 (by omega);have hco:Ex (Ec h (idx h.Txns (k:Int)))→(idx h.Txns (k:Int)).Ops.length≤16:=fun he=>by
    have:=he.2.2.1
    simpa [Ec,eG] using this
   repeat' (first | contradiction | with_reducible refine aA (fun hq => ?_) (fun hq => ?_) | with_reducible refine aj (by first | omega | grind [cZ]) ?_ | with_reducible refine aD ?_ | with_reducible refine dB ?_ | with_reducible refine dS ?_ | with_reducible refine dU ?_ | with_reducible refine dV ?_ | with_reducible refine ag ?_ | refine bA hp' ?_)
   ·exact ⟨⟨fun h=>absurd h (by decide),fun hS=>absurd (hp1'.2 (hS.txn k a1).1) ‹¬p'=true›⟩,.inr rfl⟩
   ·exact ⟨⟨fun h=>absurd h (by decide),fun hS=>absurd (hco (hS.txn k a1).2.2) (by omega)⟩,.inr rfl⟩
   ·refine Lj (b:=b) a1 (a3 k a1) (by omega) (fun hno => ?_) (fun hKo hEv => ?_)
    ·exact ⟨⟨fun h=>absurd h (by decide),fun hS=>absurd ⟨(hS.txn k a1).2.1,(hS.txn k a1).2.2⟩ hno⟩,.inr rfl⟩
    ·have hok:Fh h k:=⟨hp1'.1 (Decidable.of_not_not ‹¬¬p'=true›),hKo,hEv⟩;have hc:zt (eG h (idx h.Txns (k:Int))) (fun c=>1≤c.Kind∧c.Kind≤8):=fun j hj=>⟨(hEv.2.2.2 j hj).1,(hEv.2.2.2 j hj).2.1⟩;refine ib (NZ (i:=k) hb hN.1 hin (keys_in hKo) hEv.2.2.1 (by omega) (by omega) hc) (fun x hx => ?_)
     by_cases hall:uP (xU h k) (Ei h k)
     ·obtain ⟨b',rfl,hb'⟩:=hx.1 hall;refine ⟨a1,b',rfl,by rw [yP]; exact hb',?_,?_,?_,?_⟩
      ·rw [yP]
       intro e he;rcases List.mem_append.1 he with he | he
       ·exact hin e he
       ·obtain ⟨c,hc,rfl⟩:=List.mem_map.1 he;exact keys_in hKo c hc
      ·have:=Qc hok
       rw [yP,List.length_append]; omega
      ·rw [yP]
       exact uP.append.2 ⟨hents,hall⟩
      ·intro j hj;rcases Nat.lt_or_ge j k with h1 | h1
       ·exact hJ j h1
       ·rw [show j=k by omega]; exact hok
     ·rw [hx.2 hall]
      refine ⟨⟨fun h=>absurd h (by decide),fun hS=>absurd ?_ hall⟩,.inr rfl⟩;have hsp:∀ n:Nat,k + 1≤n→uP [] (xU h n)→uP (xU h k) (Ei h k):=by
       intro n
       induction n with
       | zero=>intro h; omega
       | succ n ih =>
        intro hn hE
        rw [yP,uP.append] at hE
        rcases Nat.lt_or_ge k n with h1 | h1
        ·exact ih (by omega) hE.1
        ·rw [show n=k by omega] at hE
         exact hE.2
      exact hsp _ a1 hS.ents
  ·have a1:k=h.Txns.length:=by omega
   repeat' (first | contradiction | with_reducible refine aA (fun hq => ?_) (fun hq => ?_) | with_reducible refine aj (by first | omega | grind [cZ]) ?_ | with_reducible refine aD ?_ | with_reducible refine dB ?_ | with_reducible refine dS ?_ | with_reducible refine dU ?_ | with_reducible refine dV ?_ | with_reducible refine ag ?_)
   rw [a1] at hents hJ
   exact ⟨⟨fun _=>⟨hN,a2,hJ,hents⟩,fun _=>rfl⟩,.inl rfl⟩
theorem Oa {h:History} (hs:qy h):∃ v,aJ h=some v∧aF h=some v∧(v=0∨v=1)∧(v=0↔fw h):=by
 obtain ⟨v,hv,v',hv',rfl,a1⟩:=Gh hs;obtain ⟨w,hw,h1,h2⟩:=Hw hs;have:v=w:=Option.some.inj (hv'.symm.trans hw);subst this;exact ⟨v,hv,hv',a1,h1⟩
end Go.Proofs.YtfpeabnehpclnaaGreatT
namespace Go.Proofs.YtfpeabnehpclnaaGreatT
open Go Go.Proofs Go.Proofs.YtfpeabnehpclnaaGreatE
set_option linter.unusedVariables false
set_option linter.unusedSimpArgs false
def yg (ops:List Op) (key:Int) (p:Nat):List Int:=((ops.take p).filter (fun o=>decide (o.Key=key∧o.Kind≤4))).map (·.Arg)
theorem Dt {ops:List Op} {key:Int} {p:Nat} (h:p < ops.length):yg ops key (p + 1)=if (idx ops (p:Int)).Key=key∧(idx ops (p:Int)).Kind≤4 then yg ops key p++[(idx ops (p:Int)).Arg] else yg ops key p:=by
 unfold yg
 rw [tL h,List.filter_append,List.map_append]
 by_cases e:(idx ops (p:Int)).Key=key∧(idx ops (p:Int)).Kind≤4
 ·simp [e]
 ·rw [if_neg e]
  simp only [List.filter_cons,List.filter_nil,decide_eq_true_eq,if_neg e]
  simp
theorem AX {ops:List Op} {key:Int} {p:Nat}:(yg ops key p).length≤ops.length:=by
 unfold yg
 rw [List.length_map]
 exact Nat.le_trans (List.length_filter_le _ _) (by simp; omega)
def GL (ops:List Op) (t:Int) (p:Nat):List Ask :=
 let o:=idx ops (p:Int)
 let mine:=yg ops o.Key p
 if o.Kind≤4 then [] else if mine=[] then [⟨t,p,o.Key,o.Vals⟩] else if (before (o.Kind - 4) o.Vals mine).2=true∧o.Kind≠5 then [⟨t,p,o.Key,(before (o.Kind - 4) o.Vals mine).1⟩] else []
def Gj (ops:List Op) (t:Int) (p:Nat):List Spot :=
 let o:=idx ops (p:Int)
 let mine:=yg ops o.Key p
 if o.Kind≤4 then [] else if mine=[] then [] else if (before (o.Kind - 4) o.Vals mine).2=true then [] else [⟨t,p⟩]
def yQ (ops:List Op) (t:Int) (k:Nat):List Ask:=(List.range k).flatMap (GL ops t)
def yh (ops:List Op) (t:Int) (k:Nat):List Spot:=(List.range k).flatMap (Gj ops t)
theorem CO {ops:List Op} {t:Int} {k:Nat}:yQ ops t (k + 1)=yQ ops t k++GL ops t k:=by
 unfold yQ; rw [List.range_succ,List.flatMap_append]; simp
theorem BB {ops:List Op} {t:Int} {k:Nat}:yh ops t (k + 1)=yh ops t k++Gj ops t k:=by
 unfold yh; rw [List.range_succ,List.flatMap_append]; simp
theorem Ez {ops:List Op} {t:Int} {k:Nat}:(yQ ops t k).length≤k:=by
 induction k with
 | zero=>simp [yQ]
 | succ k ih =>
  rw [CO,List.length_append]
  have:(GL ops t k).length≤1:=by
   unfold GL
   dsimp only
   split
   ·simp
   ·split
    ·simp
    ·split <;> simp
  omega
theorem CP {ops:List Op} {t:Int} {k:Nat}:(yh ops t k).length≤k:=by
 induction k with
 | zero=>simp [yh]
 | succ k ih =>
  rw [BB,List.length_append]
  have:(Gj ops t k).length≤1:=by
   unfold Gj
   dsimp only
   split
   ·simp
   ·split
    ·simp
    ·split <;> simp
  omega
def yR (h:History) (t:Int):List Ask:=if (idx h.Txns t).Status=1 then yQ (idx h.Txns t).Ops t (idx h.Txns t).Ops.length else []
def zF (h:History) (t:Int):List Spot:=if (idx h.Txns t).Status=1 then yh (idx h.Txns t).Ops t (idx h.Txns t).Ops.length else []
def Po (ops:List Op):Prop:=ops.length≤16∧zt ops (fun o=>1≤o.Kind∧o.Kind≤8∧o.Vals.length≤64)
theorem Fh.ops {h:History} {i:Nat} (hi:Fh h i):Po (idx h.Txns (i:Int)).Ops:=by
 obtain ⟨_,_,_,_,h1,h2⟩:=hi;refine ⟨by simpa [Ec,eG] using h1,fun j hj => ?_⟩
 have:=h2 j (by simpa [Ec,eG] using hj)
 dsimp only [Ec,eG] at this
 rw [BG hj] at this
 unfold xP Aj at this
 dsimp only at this
 grind
theorem Qd {h:History} {t:Nat} {f:gF} (ht:t < h.Txns.length) (ho:Po (idx h.Txns (t:Int)).Ops) (ha:f.asks.length≤1000000) (hb:f.bad.length≤1000000) :
  Tri (bL f h (t:Int)) (fun r=>r=⟨f.asks++yR h (t:Int),f.bad++zF h (t:Int)⟩):=by
 unfold bL yR zF;refine aj (by omega) ?_;refine aA (fun h1 => ?_) (fun h1 => ?_)
 ·rw [if_neg h1,if_neg h1]
  exact ag (by simp)
 ·have h1:(idx h.Txns (t:Int)).Status=1:=Decidable.of_not_not h1
  rw [if_pos h1,if_pos h1]
  generalize hx:(idx h.Txns (t:Int)).Ops=ops at ho ⊢;obtain ⟨a4,hall⟩:=ho;refine bX (k0:=0) ops.length (fun k s=>s.1=f.asks++yQ ops (t:Int) k∧s.2.1=f.bad++yh ops (t:Int) k∧(∀ key,mat s.2.2.1 key=yg ops key k)∧s.2.2.2=(k:Int)) (Nat.zero_le _)
   ⟨by simp [yQ],by simp [yh],fun key=>rfl,rfl⟩ ?_
  rintro k ⟨l1,l2,m,x⟩ hk ⟨e1,e2,hm,e4⟩
  dsimp only at e1 e2 hm e4
  subst e1 e2 e4;unfold tT oH oG jR
  simp only [cond_true,cond_false,hx,hm]
  have hw:w64 ((k:Int) + 1)=((k + 1:Nat):Int):=aZ (by omega);have l1:=Ez (ops:=ops) (t:=(t:Int)) (k:=k);have l2:=CP (ops:=ops) (t:=(t:Int)) (k:=k);have l3:=AX (ops:=ops) (key:=(idx ops (k:Int)).Key) (p:=k);have hn:∀ key,k < ops.length→yg ops key (k + 1)=_:=fun key hk=>Dt hk
  rw [hw]
  refine aA (fun a2 => ?_) (fun a2 => ?_)
  ·have a1:k < ops.length:=by omega
   obtain ⟨o1,o2,o3⟩:=hall k a1;have a3:w64 ((idx ops (k:Int)).Kind - 4)=(idx ops (k:Int)).Kind - 4:=cZ (by omega) (by omega);have hbf:=Fe ((idx ops (k:Int)).Kind - 4) (s:=(idx ops (k:Int)).Vals) (args:=yg ops (idx ops (k:Int)).Key k) (by omega) (by omega);have hcl:iH (idx ops (k:Int)).Vals=some (idx ops (k:Int)).Vals:=lM _ (by omega)
   rw [a3,hbf,hcl]
   simp only [List.length_append]
   have hA:=CO (ops:=ops) (t:=(t:Int)) (k:=k);have hB:=BB (ops:=ops) (t:=(t:Int)) (k:=k);have hnil:∀ l:List Int,l=[]↔l.length=0:=fun l=>List.length_eq_zero_iff.symm;unfold GL at hA;unfold Gj at hB
   dsimp only at hA hB
   repeat' (first | contradiction | with_reducible refine aA (fun hq => ?_) (fun hq => ?_) | with_reducible refine aj (by first | omega | grind [cZ]) ?_ | with_reducible refine aD ?_ | with_reducible refine dB ?_ | with_reducible refine dS ?_ | with_reducible refine dU ?_ | with_reducible refine dV ?_ | with_reducible refine ag ?_)
   all_goals (refine ⟨a1,?_,?_,fun key => ?_,rfl⟩ <;> dsimp only)
   all_goals grind [zH]
  ·have:k=ops.length:=by omega
   subst this
   repeat' (first | contradiction | with_reducible refine aA (fun hq => ?_) (fun hq => ?_) | with_reducible refine aj (by first | omega | grind [cZ]) ?_ | with_reducible refine aD ?_ | with_reducible refine dB ?_ | with_reducible refine dS ?_ | with_reducible refine dU ?_ | with_reducible refine dV ?_ | with_reducible refine ag ?_)
   rfl
theorem RO {k:Int} (h1:5≤k) (h8:k≤8):typ k=k - 4:=by unfold typ; omega
theorem ML {h:History} {t:Nat} (ht:t < h.Txns.length) (ho:Po (idx h.Txns (t:Int)).Ops) :
  bD h (t:Int)=some (yR h (t:Int),zF h (t:Int)):=by
 refine eO.1 ?_;unfold bD yR zF;refine aj (by omega) ?_;refine aA (fun h1 => ?_) (fun h1 => ?_)
 ·rw [if_neg h1,if_neg h1]
  exact ag rfl
 ·have h1:(idx h.Txns (t:Int)).Status=1:=Decidable.of_not_not h1
  rw [if_pos h1,if_pos h1]
  generalize hx:(idx h.Txns (t:Int)).Ops=ops at ho ⊢;obtain ⟨a4,hall⟩:=ho;refine bX (k0:=0) ops.length (fun k s=>s=(yQ ops (t:Int) k,yh ops (t:Int) k,(k:Int))) (Nat.zero_le _) rfl ?_;rintro k s hk rfl;have l1:=Ez (ops:=ops) (t:=(t:Int)) (k:=k);have l2:=CP (ops:=ops) (t:=(t:Int)) (k:=k);have l3:=AX (ops:=ops) (key:=(idx ops (k:Int)).Key) (p:=k);have hw:w64 ((k:Int) + 1)=((k + 1:Nat):Int):=aZ (by omega);unfold vR iN
  simp only [hx]
  refine aA (fun a2 => ?_) (fun a2 => ?_)
  ·have a1:k < ops.length:=by omega
   obtain ⟨o1,o2,o3⟩:=hall k a1;have hA:=CO (ops:=ops) (t:=(t:Int)) (k:=k);have hB:=BB (ops:=ops) (t:=(t:Int)) (k:=k);unfold GL at hA;unfold Gj at hB
   dsimp only at hA hB
   refine aj (by omega) (dB (aA (fun a3 => ?_) (fun a3 => ?_)))
   ·unfold jK
    rw [hw]
    refine ag ⟨a1,?_⟩
    grind
   ·refine bX (k0:=0) k (fun j s=>s=(yg ops (idx ops (k:Int)).Key j,(j:Int))) (Nat.zero_le _) rfl ?_;rintro j s hj rfl;have l4:=AX (ops:=ops) (key:=(idx ops (k:Int)).Key) (p:=j);have hwj:w64 ((j:Int) + 1)=((j + 1:Nat):Int):=aZ (by omega);have hn:j < ops.length→yg ops (idx ops (k:Int)).Key (j + 1)=_:=fun hk=>Dt hk;have hbf:=Hq ((idx ops (k:Int)).Kind - 4) (s:=(idx ops (k:Int)).Vals) (args:=yg ops (idx ops (k:Int)).Key j) (by omega) (by omega);have hty:jJ (idx ops (k:Int)).Kind=some ((idx ops (k:Int)).Kind - 4):=by rw [Dr o1 o2,RO (by omega) o2]
    unfold vQ rF rG rE jK iN
    simp only [cond_true,cond_false,hx,hw,hwj,hty,hbf,List.nil_append]
    have hnil:∀ l:List Int,l=[]↔l.length=0:=fun l=>List.length_eq_zero_iff.symm
    repeat' (first | contradiction | with_reducible refine aA (fun hq => ?_) (fun hq => ?_) | with_reducible refine aj (by first | omega | grind [cZ]) ?_ | with_reducible refine aD ?_ | with_reducible refine dB ?_ | with_reducible refine dS ?_ | with_reducible refine dU ?_ | with_reducible refine dV ?_ | with_reducible refine ag ?_ | refine bA hbf ?_)
    all_goals grind [Upm]
  ·have:k=ops.length:=by omega
   subst this
   repeat' (first | contradiction | with_reducible refine aA (fun hq => ?_) (fun hq => ?_) | with_reducible refine aj (by first | omega | grind [cZ]) ?_ | with_reducible refine aD ?_ | with_reducible refine dB ?_ | with_reducible refine dS ?_ | with_reducible refine dU ?_ | with_reducible refine dV ?_ | with_reducible refine ag ?_)
   rfl
end Go.Proofs.YtfpeabnehpclnaaGreatT
namespace Go.Proofs.YtfpeabnehpclnaaGreatT
open Go Go.Proofs Go.Proofs.YtfpeabnehpclnaaGreatE
set_option linter.unusedVariables false
set_option linter.unusedSimpArgs false
theorem JW {a b:List Int} (ha:a.length < 2 ^ 62):dO a b=some (decide (a=b)):=by
 refine zG.1 ?_;unfold dO;refine aA (fun h => ?_) (fun h => ?_)
 ·refine ag ?_;have:a≠b:=by rintro rfl; exact h rfl
  simp [this]
 ·have hl:a.length=b.length:=by grind
  refine tK a.length (fun j=>idx a (j:Int)=idx b (j:Int)) ?_;intro k hk hJ;have hw:w64 ((k:Int) + 1)=((k + 1:Nat):Int):=aZ (by omega);have hx:(∀ j:Nat,j < a.length→idx a (j:Int)=idx b (j:Int))→a=b:=fun h=>Np hl h;unfold lu
  dsimp only
  rw [hw]
  repeat' (first | contradiction | with_reducible refine aA (fun hq => ?_) (fun hq => ?_) | with_reducible refine aj (by first | omega | grind [cZ]) ?_ | with_reducible refine aD ?_ | with_reducible refine dB ?_ | with_reducible refine dS ?_ | with_reducible refine dU ?_ | with_reducible refine dV ?_ | with_reducible refine ag ?_)
  ·show false=true↔a=b
   grind
  ·exact ⟨rfl,by omega,by grind⟩
  ·show true=true↔a=b
   grind
end Go.Proofs.YtfpeabnehpclnaaGreatT
namespace Go.Proofs.YtfpeabnehpclnaaGreatT
open Go Go.Proofs Go.Proofs.YtfpeabnehpclnaaGreatE
set_option linter.unusedVariables false
set_option linter.unusedSimpArgs false
abbrev OG (y:Op):Prop:=((Lit.int .i64 (y).Kind).wf=true)∧((Lit.int .i64 (y).Key).wf=true)∧((Lit.int .i64 (y).Arg).wf=true)∧(True)∧((∀ z ∈ (y).Vals,(Lit.int .i64 z).wf=true)∧((y).Vals).length * 8≤140737488351232)
abbrev TG (y:Txn):Prop:=((Lit.int .i64 (y).Proc).wf=true)∧((Lit.int .i64 (y).Status).wf=true)∧((Lit.int .i64 (y).From).wf=true)∧((Lit.int .i64 (y).To).wf=true)∧((∀ z ∈ (y).Ops,OG z)∧((y).Ops).length * 56≤140737488351232)
abbrev HG (K:ByteArray→Prop) (x:History):Prop:=((∀ y ∈ (x).Keys,K y)∧((x).Keys).length * 16≤140737488351232)∧((∀ y ∈ (x).Txns,TG y)∧((x).Txns).length * 56≤140737488351232)
theorem HG.small {K:ByteArray→Prop} {h:History} (g:HG K h):qy h :=
 ⟨g.1.2,g.2.2,De.2 fun t ht=>⟨(g.2.1 t ht).2.2.2.2.2,De.2 fun o ho=>((g.2.1 t ht).2.2.2.2.1 o ho).2.2.2.2.2⟩⟩
theorem Fj {h:History} {t:Nat} (ho:Po (idx h.Txns (t:Int)).Ops):(yR h (t:Int)).length≤16∧(zF h (t:Int)).length≤16∧zt (yR h (t:Int)) (fun x=>x.Base.length < 2 ^ 62):=by
 have h1:=Ez (ops:=(idx h.Txns (t:Int)).Ops) (t:=(t:Int)) (k:=(idx h.Txns (t:Int)).Ops.length);have h2:=CP (ops:=(idx h.Txns (t:Int)).Ops) (t:=(t:Int)) (k:=(idx h.Txns (t:Int)).Ops.length);have h3:=ho.1;refine ⟨?_,?_,?_⟩
 ·unfold yR; split
  ·omega
  ·simp
 ·unfold zF; split
  ·omega
  ·simp
 ·rw [De]
  intro x hx;unfold yR at hx
  split at hx
  ·unfold yQ at hx
   rw [List.mem_flatMap] at hx
   obtain ⟨p,hp,hx⟩:=hx;have hp:p < _:=List.mem_range.1 hp;have hv:=(ho.2 p hp).2.2;have hb:=Lh ((idx (idx h.Txns (t:Int)).Ops (p:Int)).Kind - 4) (idx (idx h.Txns (t:Int)).Ops (p:Int)).Vals (yg (idx h.Txns (t:Int)).Ops (idx (idx h.Txns (t:Int)).Ops (p:Int)).Key p);unfold GL at hx
   dsimp only at hx
   split at hx
   ·simp at hx
   ·split at hx
    ·simp at hx; subst hx; dsimp only; omega
    ·split at hx
     ·simp at hx; subst hx; dsimp only; omega
     ·simp at hx
  ·simp at hx
end Go.Proofs.YtfpeabnehpclnaaGreatT
namespace Go.Proofs.YtfpeabnehpclnaaGreatT
open Go Go.Proofs Go.Proofs.YtfpeabnehpclnaaGreatE
set_option linter.unusedVariables false
set_option linter.unusedSimpArgs false
def bn (h:History) (k:Nat):List Ask:=(List.range k).flatMap (fun t=>yR h ((t:Nat):Int))
def og (h:History) (k:Nat):List Spot:=(List.range k).flatMap (fun t=>zF h ((t:Nat):Int))
theorem BC {h:History} {k:Nat}:bn h (k + 1)=bn h k++yR h (k:Int):=by
 unfold bn; rw [List.range_succ,List.flatMap_append]; simp
theorem Ak {h:History} {k:Nat}:og h (k + 1)=og h k++zF h (k:Int):=by
 unfold og; rw [List.range_succ,List.flatMap_append]; simp
theorem pO {h:History} (hS:fw h):∀ k:Nat,k≤h.Txns.length→(bn h k).length≤16 * k∧(og h k).length≤16 * k∧zt (bn h k) (fun x=>x.Base.length < 2 ^ 62):=by
 intro k
 induction k with
 | zero=>intro _; simp [bn,og,zt]
 | succ k ih =>
  intro hk;obtain ⟨i1,i2,i3⟩:=ih (by omega);obtain ⟨b1,b2,b3⟩:=Fj (hS.txn k (by omega)).ops
  rw [BC,Ak,List.length_append,List.length_append]
  refine ⟨by omega,by omega,?_⟩
  rw [De] at i3 b3 ⊢
  intro x hx;rcases List.mem_append.1 hx with hx | hx
  ·exact i3 x hx
  ·exact b3 x hx
theorem Fp {h:History} (hs:qy h) (hS:fw h) (hc:aJ h=some 0):qJ h=some (⟨bn h h.Txns.length,og h h.Txns.length⟩,0):=by
 have a3:=hS.len;refine eO.1 ?_;unfold qJ;refine bA hc ?_
 rw [bne_self_eq_false,cond_false]
 refine bX (k0:=0) h.Txns.length (fun k s=>s=(bn h k,og h k,(k:Int))) (Nat.zero_le _) rfl ?_;rintro k s hk rfl;have hw:w64 ((k:Int) + 1)=((k + 1:Nat):Int):=aZ (by omega);obtain ⟨i1,i2,i3⟩:=pO hS k hk;unfold Bh
 dsimp only
 refine aA (fun a2 => ?_) (fun a2 => ?_)
 ·have a1:k < h.Txns.length:=by omega
  refine ed (Qd a1 (hS.txn k a1).ops (by dsimp only; omega) (by dsimp only; omega)) (fun r hr => ?_);subst hr;refine ag ⟨a1,?_⟩
  dsimp only
  rw [hw,BC,Ak]
 ·have:k=h.Txns.length:=by omega
  subst this;exact aD (ag rfl)
theorem CQ {h:History} (hs:qy h) (hS:fw h):gz h=some (bn h h.Txns.length,og h h.Txns.length):=by
 have a3:=hS.len;refine eO.1 ?_;unfold gz;refine bX (k0:=0) h.Txns.length (fun k s=>s=(bn h k,og h k,(k:Int))) (Nat.zero_le _) rfl ?_;rintro k s hk rfl;have hw:w64 ((k:Int) + 1)=((k + 1:Nat):Int):=aZ (by omega);obtain ⟨i1,i2,i3⟩:=pO hS k hk;unfold uI
 dsimp only
 refine aA (fun a2 => ?_) (fun a2 => ?_)
 ·have a1:k < h.Txns.length:=by omega
  have ho:=(hS.txn k a1).ops;obtain ⟨b1,b2,b3⟩:=Fj ho;refine bA (ML a1 ho) ?_
  dsimp only
  refine aj (by omega) (aj (by omega) (ag ⟨a1,?_⟩))
  dsimp only
  rw [hw,BC,Ak]
 ·have:k=h.Txns.length:=by omega
  subst this;exact aD (ag rfl)
end Go.Proofs.YtfpeabnehpclnaaGreatT
namespace Go.Proofs.YtfpeabnehpclnaaGreatT
open Go Go.Proofs Go.Proofs.YtfpeabnehpclnaaGreatE
set_option linter.unusedVariables false
set_option linter.unusedSimpArgs false
def jD (h:History) (t:Int) (key:Int):List Int:=yg (idx h.Txns t).Ops key (idx h.Txns t).Ops.length
theorem GM {h:History} {t key:Int}:(jD h t key).length≤(idx h.Txns t).Ops.length:=AX
theorem IP {x:Txn} {key:Int} (ho:x.Ops.length≤16):fD x key=some (yg x.Ops key x.Ops.length):=by
 refine eO.1 ?_;unfold fD;refine bX (k0:=0) x.Ops.length (fun k s=>s=(yg x.Ops key k,(k:Int))) (Nat.zero_le _) rfl ?_;rintro k s hk rfl;have hw:w64 ((k:Int) + 1)=((k + 1:Nat):Int):=aZ (by omega);have l3:=AX (ops:=x.Ops) (key:=key) (p:=k);have hn:k < x.Ops.length→yg x.Ops key (k + 1)=_:=fun hk=>Dt hk;unfold yE vw vv
 dsimp only
 rw [hw]
 refine aA (fun a2 => ?_) (fun a2 => ?_)
 ·have a1:k < x.Ops.length:=by omega
  replace hn:=hn a1
  repeat' (first | contradiction | with_reducible refine aA (fun hq => ?_) (fun hq => ?_) | with_reducible refine aj (by first | omega | grind [cZ]) ?_ | with_reducible refine aD ?_ | with_reducible refine dB ?_ | with_reducible refine dS ?_ | with_reducible refine dU ?_ | with_reducible refine dV ?_ | with_reducible refine ag ?_)
  all_goals (refine ⟨a1,?_⟩; dsimp only; grind)
 ·have:k=x.Ops.length:=by omega
  subst this
  repeat' (first | contradiction | with_reducible refine aA (fun hq => ?_) (fun hq => ?_) | with_reducible refine aj (by first | omega | grind [cZ]) ?_ | with_reducible refine aD ?_ | with_reducible refine dB ?_ | with_reducible refine dS ?_ | with_reducible refine dU ?_ | with_reducible refine dV ?_ | with_reducible refine ag ?_)
  all_goals rfl
theorem yS {h:History} {t key:Int} (ht:0≤t∧t < (h.Txns.length:Int)) (ho:(idx h.Txns t).Ops.length≤16):bf h t key=some (jD h t key):=by
 refine eO.1 ?_;unfold bf jD;generalize hx:(idx h.Txns t).Ops=ops at ho ⊢;refine bX (k0:=0) ops.length (fun k s=>s=(yg ops key k,(k:Int))) (Nat.zero_le _) rfl ?_;rintro k s hk rfl;have hw:w64 ((k:Int) + 1)=((k + 1:Nat):Int):=aZ (by omega);have l3:=AX (ops:=ops) (key:=key) (p:=k);have hn:k < ops.length→yg ops key (k + 1)=_:=fun hk=>Dt hk;unfold sG nR nQ iN
 simp only [hx,hw,Option.bind_some]
 refine aj ht ?_;refine aA (fun a2 => ?_) (fun a2 => ?_)
 ·have a1:k < ops.length:=by omega
  replace hn:=hn a1
  repeat' (first | contradiction | with_reducible refine aA (fun hq => ?_) (fun hq => ?_) | with_reducible refine aj (by first | omega | grind [cZ]) ?_ | with_reducible refine aD ?_ | with_reducible refine dB ?_ | with_reducible refine dS ?_ | with_reducible refine dU ?_ | with_reducible refine dV ?_ | with_reducible refine ag ?_)
  all_goals (refine ⟨a1,?_⟩; dsimp only; grind)
 ·have:k=ops.length:=by omega
  subst this
  repeat' (first | contradiction | with_reducible refine aA (fun hq => ?_) (fun hq => ?_) | with_reducible refine aj (by first | omega | grind [cZ]) ?_ | with_reducible refine aD ?_ | with_reducible refine dB ?_ | with_reducible refine dS ?_ | with_reducible refine dU ?_ | with_reducible refine dV ?_ | with_reducible refine ag ?_)
  all_goals rfl
def IQ (h:History) (key:Int) (t:Nat):Bool:=decide ((idx h.Txns (t:Int)).Status≠2∧0 < (jD h (t:Int) key).length)
def gI (h:History) (key:Int) (k:Nat):List Int:=((List.range k).filter (IQ h key)).map (fun t:Nat=>(t:Int))
def mG (h:History) (a:Ask) (k:Nat):List Int:=(gI h a.Key k).filter (fun t=>decide (t≠a.Txn))
theorem yT {h:History} {key:Int} {k:Nat}:gI h key (k + 1)=if IQ h key k then gI h key k++[(k:Int)] else gI h key k:=by
 unfold gI
 rw [List.range_succ,List.filter_append,List.map_append]
 by_cases hw:IQ h key k=true <;> simp [hw]
theorem qL {h:History} {key:Int} {k:Nat}:(gI h key k).length≤k:=by
 unfold gI
 rw [List.length_map]
 exact Nat.le_trans (List.length_filter_le _ _) (by simp)
theorem JX {h:History} {a:Ask} {k:Nat}:mG h a (k + 1)=if IQ h a.Key k∧(k:Int)≠a.Txn then mG h a k++[(k:Int)] else mG h a k:=by
 unfold mG
 rw [yT]
 by_cases hw:IQ h a.Key k=true <;> by_cases hn:(k:Int)=a.Txn <;> simp [hw,hn]
theorem yj {h:History} {a:Ask} {k:Nat}:(mG h a k).length≤k:=Nat.le_trans (List.length_filter_le _ _) qL
theorem CR {h:History} {key:Int} {k:Nat} {t:Int}:t ∈ gI h key k↔0≤t∧t < (k:Int)∧(idx h.Txns t).Status≠2∧0 < (jD h t key).length:=by
 unfold gI
 simp only [List.mem_map,List.mem_filter,List.mem_range,IQ,decide_eq_true_eq]
 constructor
 ·rintro ⟨n,⟨hn,h1,h2⟩,rfl⟩;exact ⟨by omega,by omega,h1,h2⟩
 ·rintro ⟨h0,h1,h2,h3⟩;refine ⟨t.toNat,⟨by omega,?_⟩,by omega⟩
  rw [show ((t.toNat:Nat):Int)=t by omega]
  exact ⟨h2,h3⟩
theorem wX {h:History} {a:Ask} {k:Nat} {t:Int}:t ∈ mG h a k↔(0≤t∧t < (k:Int)∧(idx h.Txns t).Status≠2∧0 < (jD h t a.Key).length)∧t≠a.Txn:=by
 unfold mG
 rw [List.mem_filter,CR,decide_eq_true_eq]
theorem Fq {h:History} (hS:fw h) (hc:aJ h=some 0) {key:Int}:eD h key=some (gI h key h.Txns.length):=by
 have a3:=hS.len;refine eO.1 ?_;unfold eD;refine bA hc ?_
 rw [bne_self_eq_false,cond_false]
 refine bX (k0:=0) h.Txns.length (fun k s=>s=(gI h key k,(k:Int))) (Nat.zero_le _) rfl ?_;rintro k s hk rfl;have hw:w64 ((k:Int) + 1)=((k + 1:Nat):Int):=aZ (by omega);have l3:=qL (h:=h) (key:=key) (k:=k);have hn:=yT (h:=h) (key:=key) (k:=k);unfold IQ jD at hn;unfold wQ sV sU
 dsimp only
 rw [hw]
 refine aA (fun a2 => ?_) (fun a2 => ?_)
 ·have a1:k < h.Txns.length:=by omega
  have hwt:=IP (x:=idx h.Txns (k:Int)) (key:=key) (hS.txn k a1).ops.1
  simp only [hwt,Option.bind_some]
  repeat' (first | contradiction | with_reducible refine aA (fun hq => ?_) (fun hq => ?_) | with_reducible refine aj (by first | omega | grind [cZ]) ?_ | with_reducible refine aD ?_ | with_reducible refine dB ?_ | with_reducible refine dS ?_ | with_reducible refine dU ?_ | with_reducible refine dV ?_ | with_reducible refine ag ?_)
  all_goals (refine ⟨a1,?_⟩; dsimp only; grind)
 ·have:k=h.Txns.length:=by omega
  subst this
  repeat' (first | contradiction | with_reducible refine aA (fun hq => ?_) (fun hq => ?_) | with_reducible refine aj (by first | omega | grind [cZ]) ?_ | with_reducible refine aD ?_ | with_reducible refine dB ?_ | with_reducible refine dS ?_ | with_reducible refine dU ?_ | with_reducible refine dV ?_ | with_reducible refine ag ?_)
  all_goals rfl
theorem CS {h:History} (hS:fw h) {a:Ask}:bv h a=some (mG h a h.Txns.length):=by
 have a3:=hS.len;refine eO.1 ?_;unfold bv;refine bX (k0:=0) h.Txns.length (fun k s=>s=(mG h a k,(k:Int))) (Nat.zero_le _) rfl ?_;rintro k s hk rfl;have hw:w64 ((k:Int) + 1)=((k + 1:Nat):Int):=aZ (by omega);have l3:=yj (h:=h) (a:=a) (k:=k);have hn:=JX (h:=h) (a:=a) (k:=k);unfold IQ at hn;unfold qP kE mV
 dsimp only
 rw [hw]
 refine aA (fun a2 => ?_) (fun a2 => ?_)
 ·have a1:k < h.Txns.length:=by omega
  have hwt:=yS (h:=h) (t:=(k:Int)) (key:=a.Key) ⟨by omega,by omega⟩ (hS.txn k a1).ops.1
  simp only [hwt,Option.bind_some]
  repeat' (first | contradiction | with_reducible refine aA (fun hq => ?_) (fun hq => ?_) | with_reducible refine aj (by first | omega | grind [cZ]) ?_ | with_reducible refine aD ?_ | with_reducible refine dB ?_ | with_reducible refine dS ?_ | with_reducible refine dU ?_ | with_reducible refine dV ?_ | with_reducible refine ag ?_)
  all_goals (refine ⟨a1,?_⟩; dsimp only; grind)
 ·have:k=h.Txns.length:=by omega
  subst this
  repeat' (first | contradiction | with_reducible refine aA (fun hq => ?_) (fun hq => ?_) | with_reducible refine aj (by first | omega | grind [cZ]) ?_ | with_reducible refine aD ?_ | with_reducible refine dB ?_ | with_reducible refine dS ?_ | with_reducible refine dU ?_ | with_reducible refine dV ?_ | with_reducible refine ag ?_)
  all_goals rfl
theorem Ob {h:History} (hS:fw h) (hc:aJ h=some 0) {t key:Int}:kS h t key =
  some (if 0≤t∧t < (h.Txns.length:Int) then (jD h t key,decide (0 < (jD h t key).length)) else ([],false)):=by
 refine eO.1 ?_;unfold kS rX
 simp only [hc,Option.bind_some]
 by_cases ht:0≤t∧t < (h.Txns.length:Int)
 ·have h2:t=((t.toNat:Nat):Int):=by omega
  have ho:=(hS.txn t.toNat (by omega)).ops.1
  rw [← h2] at ho
  have hwt:=IP (x:=idx h.Txns t) (key:=key) ho
  simp only [hwt,Option.bind_some]
  rw [if_pos ht]
  unfold jD
  repeat' (first | contradiction | with_reducible refine aA (fun hq => ?_) (fun hq => ?_) | with_reducible refine aj (by first | omega | grind [cZ]) ?_ | with_reducible refine aD ?_ | with_reducible refine dB ?_ | with_reducible refine dS ?_ | with_reducible refine dU ?_ | with_reducible refine dV ?_ | with_reducible refine ag ?_)
  all_goals (first | omega | simp)
 ·rw [if_neg ht]
  repeat' (first | contradiction | with_reducible refine aA (fun hq => ?_) (fun hq => ?_) | with_reducible refine aj (by first | omega | grind [cZ]) ?_ | with_reducible refine aD ?_ | with_reducible refine dB ?_ | with_reducible refine dS ?_ | with_reducible refine dU ?_ | with_reducible refine dV ?_ | with_reducible refine ag ?_)
  all_goals (first | omega | rfl | simp)
def CU (h:History) (a:Ask) (l:List Int):List bu:=l.map (fun t=>⟨t,jD h t a.Key⟩)
theorem CV {h:History} (hS:fw h) (hc:aJ h=some 0) {a:Ask}:dC h a=some (CU h a (mG h a h.Txns.length)):=by
 have a3:=hS.len;refine eO.1 ?_;unfold dC;refine bA (Fq hS hc) ?_;obtain ⟨W,hW⟩:∃ W,W=gI h a.Key h.Txns.length:=⟨_,rfl⟩;have hWl:=qL (h:=h) (key:=a.Key) (k:=h.Txns.length);have hWm:∀ j:Nat,j < W.length→idx W (j:Int) ∈ gI h a.Key h.Txns.length:=by
  intro j hj
  rw [← hW,dK (n:=j) (by omega) (by omega)]
  exact List.getElem_mem _
 unfold mG
 rw [← hW] at hWl ⊢
 refine bX (k0:=0) W.length (fun k s=>s=(CU h a ((W.take k).filter (fun t=>decide (t≠a.Txn))),(k:Int))) (Nat.zero_le _) (by simp [CU]) ?_;rintro k s hk rfl;have hw:w64 ((k:Int) + 1)=((k + 1:Nat):Int):=aZ (by omega);have l3:(CU h a ((W.take k).filter (fun t=>decide (t≠a.Txn)))).length≤32:=by
  unfold CU
  rw [List.length_map]
  exact Nat.le_trans (List.length_filter_le _ _) (by rw [List.length_take]; omega)
 unfold wR sZ sW
 dsimp only
 rw [hw]
 refine aA (fun a2 => ?_) (fun a2 => ?_)
 ·have a1:k < W.length:=by omega
  have hm:=CR.1 (hWm k a1);have hn:CU h a ((W.take (k + 1)).filter (fun t=>decide (t≠a.Txn)))=if idx W (k:Int)≠a.Txn then CU h a ((W.take k).filter (fun t=>decide (t≠a.Txn)))++[⟨idx W (k:Int),jD h (idx W (k:Int)) a.Key⟩] else CU h a ((W.take k).filter (fun t=>decide (t≠a.Txn))):=by
   rw [List.take_succ_eq_append_getElem a1,List.filter_append]
   have:W[k]=idx W (k:Int):=(dK (n:=k) (by omega) a1).symm
   rw [this]
   unfold CU
   by_cases hq:idx W (k:Int)=a.Txn <;> simp [hq]
  simp only [Ob hS hc,Option.bind_some,if_pos (show 0≤idx W (k:Int)∧idx W (k:Int) < (h.Txns.length:Int) from ⟨hm.1,hm.2.1⟩)]
  repeat' (first | contradiction | with_reducible refine aA (fun hq => ?_) (fun hq => ?_) | with_reducible refine aj (by first | omega | grind [cZ]) ?_ | with_reducible refine aD ?_ | with_reducible refine dB ?_ | with_reducible refine dS ?_ | with_reducible refine dU ?_ | with_reducible refine dV ?_ | with_reducible refine ag ?_)
  all_goals (refine ⟨a1,?_⟩; dsimp only; grind)
 ·have:k=W.length:=by omega
  subst this
  repeat' (first | contradiction | with_reducible refine aA (fun hq => ?_) (fun hq => ?_) | with_reducible refine aj (by first | omega | grind [cZ]) ?_ | with_reducible refine aD ?_ | with_reducible refine dB ?_ | with_reducible refine dS ?_ | with_reducible refine dU ?_ | with_reducible refine dV ?_ | with_reducible refine ag ?_)
  all_goals exact (by rw [List.take_length]:CU h a ((W.take W.length).filter (fun t=>decide (t≠a.Txn)))=CU h a (W.filter (fun t=>decide (t≠a.Txn))))
end Go.Proofs.YtfpeabnehpclnaaGreatT
namespace Go.Proofs.YtfpeabnehpclnaaGreatT
open Go Go.Proofs Go.Proofs.YtfpeabnehpclnaaGreatE
set_option linter.unusedVariables false
set_option linter.unusedSimpArgs false
def opAt (h:History) (t p:Int):Op:=idx (idx h.Txns t).Ops p
theorem Pp {h:History} {n t p:Nat} (ht:t < n) (hp:p < (idx h.Txns (t:Int)).Ops.length):(Aj h (opAt h (t:Int) (p:Int)),(t:Int)) ∈ xU h n:=by
 unfold xU Ei eG opAt
 rw [List.mem_flatMap]
 refine ⟨t,List.mem_range.2 ht,?_⟩
 rw [List.map_map,List.mem_map]
 refine ⟨idx (idx h.Txns (t:Int)).Ops (p:Int),?_,rfl⟩
 rw [dK (n:=p) rfl hp]
 exact List.getElem_mem _
theorem RP {L:List (Call×Int)} (h:uP [] L) {e f:Call×Int} (he:e ∈ L) (hf:f ∈ L) (hk:e.1.Key=f.1.Key):typ e.1.Kind=typ f.1.Kind:=by
 obtain ⟨i,hi,rfl⟩:=List.getElem_of_mem he;obtain ⟨j,hj,rfl⟩:=List.getElem_of_mem hf;rcases Nat.lt_trichotomy i j with hij | hij | hij
 ·have:=(h j hj).1 L[i] (by rw [List.nil_append]; exact List.mem_take_iff_getElem.2 ⟨i,by omega,rfl⟩) (by rw [dK (n:=j) rfl hj]; exact hk)
  rwa [dK (n:=j) rfl hj] at this
 ·subst hij; rfl
 ·have:=(h i hi).1 L[j] (by rw [List.nil_append]; exact List.mem_take_iff_getElem.2 ⟨j,by omega,rfl⟩) (by rw [dK (n:=i) rfl hi]; exact hk.symm)
  rw [dK (n:=i) rfl hi] at this
  exact this.symm
theorem MM {h:History} (hS:fw h) {t p t' p':Nat} (ht:t < h.Txns.length) (hp:p < (idx h.Txns (t:Int)).Ops.length) (ht':t' < h.Txns.length) (hp':p' < (idx h.Txns (t':Int)).Ops.length)
  (hk:(opAt h (t:Int) (p:Int)).Key=(opAt h (t':Int) (p':Int)).Key):typ (opAt h (t:Int) (p:Int)).Kind=typ (opAt h (t':Int) (p':Int)).Kind :=
 RP hS.ents (Pp ht hp) (Pp ht' hp') (by show idx h.Keys _=idx h.Keys _; rw [hk])
theorem Du {h:History} (hS:fw h) {t p:Nat} (ht:t < h.Txns.length) (hp:p < (idx h.Txns (t:Int)).Ops.length):1≤(opAt h (t:Int) (p:Int)).Kind∧(opAt h (t:Int) (p:Int)).Kind≤8:=by
 obtain ⟨h1,h2⟩:=(hS.txn t ht).ops;have:=h2 p hp;exact ⟨this.1,this.2.1⟩
theorem Kv {h:History} (hS:fw h) {a:Ask} {t p:Nat} (ht:t < h.Txns.length) (hp:p < (idx h.Txns (t:Int)).Ops.length) (e1:a.Txn=(t:Int)) (e2:a.Place=(p:Int)) :
  mg h a=some (typ (opAt h (t:Int) (p:Int)).Kind):=by
 obtain ⟨k1,k2⟩:=Du hS ht hp;refine eO.1 ?_;unfold mg
 rw [e1,e2]
 refine aj (by omega) (aj (by omega) ?_);exact bA (Dr k1 k2) (ag rfl)
theorem Dv {h:History} (hS:fw h) (hc:aJ h=some 0) {key:Int} {t0 p0:Nat} (a4:t0 < h.Txns.length) (a6:p0 < (idx h.Txns (t0:Int)).Ops.length) (a5:(opAt h (t0:Int) (p0:Int)).Key=key) :
  gV h key=some (typ (opAt h (t0:Int) (p0:Int)).Kind):=by
 have b0:=hS.len;refine eO.1 ?_;unfold gV;refine bA hc ?_
 rw [bne_self_eq_false,cond_false]
 refine bX (k0:=0) h.Txns.length (fun k s=>s=(k:Int)∧∀ t p:Nat,t < k→p < (idx h.Txns (t:Int)).Ops.length→(opAt h (t:Int) (p:Int)).Key≠key) (Nat.zero_le _) ⟨rfl,fun t p h=>absurd h (Nat.not_lt_zero _)⟩ ?_;rintro k s hk ⟨rfl,hno⟩;have hw:w64 ((k:Int) + 1)=((k + 1:Nat):Int):=aZ (by omega);unfold zQ;refine aA (fun a9 => ?_) (fun a9 => ?_)
 ·have a1:k < h.Txns.length:=by omega
  refine aj (by omega) ?_;have b1:=(hS.txn k a1).ops.1;refine bX (k0:=0) (idx h.Txns (k:Int)).Ops.length (fun m s=>s=(m:Int)∧∀ p:Nat,p < m→(opAt h (k:Int) (p:Int)).Key≠key) (Nat.zero_le _) ⟨rfl,fun p h=>absurd h (Nat.not_lt_zero _)⟩ ?_;rintro m s hm ⟨rfl,a3⟩;have a8:w64 ((m:Int) + 1)=((m + 1:Nat):Int):=aZ (by omega);unfold zP
  dsimp only
  rw [hw,a8]
  refine aA (fun a7 => ?_) (fun a7 => ?_)
  ·have a2:m < (idx h.Txns (k:Int)).Ops.length:=by omega
   refine aj (by omega) ?_;refine aA (fun he => ?_) (fun he => ?_)
   ·obtain ⟨k1,k2⟩:=Du hS a1 a2;refine bA (CL k1 k2) (aD (aD (ag ?_)));exact MM hS a1 a2 a4 a6 ((show (opAt h (k:Int) (m:Int)).Key=key from he).trans a5.symm)
   ·refine ag ⟨a2,rfl,fun p hp => ?_⟩;rcases Nat.lt_or_ge p m with h1 | h1
    ·exact a3 p h1
    ·have:p=m:=by omega
     subst this;exact he
  ·have:m=(idx h.Txns (k:Int)).Ops.length:=by omega
   subst this;refine aD (ag ⟨a1,rfl,fun t p ht hp => ?_⟩);rcases Nat.lt_or_ge t k with h1 | h1
   ·exact hno t p h1 hp
   ·have:t=k:=by omega
    subst this;exact a3 p hp
 ·have:k=h.Txns.length:=by omega
  subst this;exact absurd a5 (hno t0 p0 a4 a6)
end Go.Proofs.YtfpeabnehpclnaaGreatT
