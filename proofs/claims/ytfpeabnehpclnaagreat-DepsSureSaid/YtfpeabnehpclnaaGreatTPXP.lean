import Derived.Test.YtfpeabnehpclnaaGreatTD
import Derived.Test.YtfpeabnehpclnaaGreatY
import Derived.Test.YtfpeabnehpclnaaGreatTF
namespace Go.Proofs.YtfpeabnehpclnaaGreatT
open Go Go.Proofs Go.Proofs.YtfpeabnehpclnaaGreatE
set_option linter.unusedVariables false
set_option linter.unusedSimpArgs false
def Upm {S Ω:Type} (n k:Nat) (J:Nat→S→Prop) (Q:Ω→Prop):S ⊕ Ω→Prop
 | .inl s'=>k < n∧J (k + 1) s'
 | .inr o=>Q o
theorem eZ {S Ω:Type} {step:S→Option (S ⊕ Ω)} {Q:Ω→Prop} (n:Nat) (J:Nat→S→Prop) {s0:S} {k0:Nat} (a0:k0≤n) (h0:J k0 s0)
  (hs:∀ (k:Nat) (s:S),k≤n→J k s→Tri (step s) (Upm n k J Q)):Tri (iter step s0) Q:=by
 generalize hd:n - k0=d
 induction d using Nat.strongRecOn generalizing k0 s0 with
 | ind d ih =>
  obtain ⟨x,hx,hr⟩:=hs k0 s0 a0 h0
  rw [CW,hx]
  cases x with
  | inl s'=>exact ih (n - (k0 + 1)) (by have:=hr.1; omega) (k0:=k0 + 1) (by have:=hr.1; omega) hr.2 rfl
  | inr o=>exact ⟨o,rfl,hr⟩
def Asc (s:List Int):Prop:=∀ k:Nat,k + 1 < s.length→idx s (k:Int) < idx s ((k + 1:Nat):Int)
instance (s:List Int):Decidable (Asc s):=by
 unfold Asc;exact decidable_of_iff (∀ k,k < s.length→k + 1 < s.length→idx s (k:Int) < idx s ((k + 1:Nat):Int)) ⟨fun h k hk=>h k (by omega) hk,fun h k _ hk=>h k hk⟩
theorem iZ {s:List Int} {k:Nat} (h:k < s.length):idx s (k:Int)=s[k]:=eB rfl h
theorem zl {s:List Int}:Asc s↔s.Pairwise (· < ·):=by
 rw [List.pairwise_iff_getElem]
 constructor
 ·intro h i j hi hj hij
  induction j with
  | zero=>omega
  | succ j ih =>
   have h1:=h j hj
   rw [iZ (by omega),iZ hj] at h1
   rcases Nat.lt_or_ge i j with h2 | h2
   ·exact Int.lt_trans (ih (by omega) h2) h1
   ·have:i=j:=by omega
    subst this;exact h1
 ·intro h k hk
  rw [iZ (by omega),iZ hk]
  exact h k (k + 1) (by omega) hk (by omega)
def SOk (t:Int) (s:List Int):Bool:=(t == 1 && decide (s.length≤1)) || (t == 2 && decide (s.length≤64)) || (t == 3 && decide (Asc s) && decide (s.length≤64)) || (t == 4 && s.length == 1)
def chk (t:Int) (s:List Int):Int:=if 1≤t∧t≤4 then (if SOk t s then 0 else 80) else 1
theorem qH {k:Nat} (h:k < 2 ^ 62) (h1:1≤k):w64 ((k:Int) - 1)=((k - 1:Nat):Int):=by
 rw [oJ (by omega) (by omega)]; omega
theorem Dn {s:List Int} (hs:s.length < 2 ^ 62):gL () s=some (decide (Asc s) && decide (s.length≤64)):=by
 unfold gL;refine gI.1 ?_;refine eZ (k0:=1) (s.length + 1) (fun k x=>x=(k:Int)∧1≤k∧∀ j:Nat,j + 1 < k→j + 1 < s.length→idx s (j:Int) < idx s ((j + 1:Nat):Int)) (by omega) ⟨rfl,Nat.le_refl _,fun j h=>by omega⟩ ?_
 rintro k x hk ⟨rfl,a0,hJ⟩;unfold pE;refine kC (fun h => ?_) (fun h => ?_)
 ·have h:(k:Int) < s.length:=of_decide_eq_true h;have e:=qH (k:=k) (by omega) a0;refine ax (by rw [e]; omega) (ax (by omega) (kC (fun h2 => ?_) (fun h2 => ?_)))
  ·have h2:idx s (k:Int)≤idx s (w64 ((k:Int) - 1)):=of_decide_eq_true h2
   rw [e] at h2
   refine aK (aj ?_)
   show false=_
   have hn:¬ Asc s:=by
    intro hA;have:=hA (k - 1) (by omega)
    rw [show k - 1 + 1=k by omega] at this
    omega
   simp [hn]
  ·have h2:¬ idx s (k:Int)≤idx s (w64 ((k:Int) - 1)):=of_decide_eq_false h2
   rw [e] at h2
   refine ⟨_,rfl,by omega,bN (by omega),by omega,fun j hj hl => ?_⟩
   rcases Nat.lt_or_ge (j + 1) k with h3 | h3
   ·exact hJ j h3 hl
   ·have:j=k - 1:=by omega
    subst this
    rw [show k - 1 + 1=k by omega]
    omega
 ·have h:¬ (k:Int) < s.length:=of_decide_eq_false h;refine aK (aj ?_)
  show decide ((s.length:Int)≤64)=_
  have hA:Asc s:=fun j hj=>hJ j (by omega) hj
  simp only [hA,decide_true,Bool.true_and]
  congr 1
  exact propext ⟨fun h=>by omega,fun h=>by omega⟩
theorem Ez {t:Int} {s:List Int} (h:1≤t∧t≤4):chk t s=if SOk t s then 0 else 80:=if_pos h
theorem four {t:Int} (h:1≤t∧t≤4):t=1∨t=2∨t=3∨t=4:=by omega
theorem Oc {s:List Int} {n:Nat}:decide ((s.length:Int)≤(n:Int))=decide (s.length≤n):=by
 congr 1
 exact propext ⟨fun h=>by omega,fun h=>by omega⟩
theorem EW {t:Int} (h:¬ (1≤t∧t≤4)):kJ t=some (-1):=by
 have e1:(t == 1)=false:=by rw [beq_eq_false_iff_ne]; omega
 have e2:(t == 2)=false:=by rw [beq_eq_false_iff_ne]; omega
 have e3:(t == 3)=false:=by rw [beq_eq_false_iff_ne]; omega
 have e4:(t == 4)=false:=by rw [beq_eq_false_iff_ne]; omega
 simp [kJ,e1,e2,e3,e4]
theorem BX (t:Int) {s:List Int} (hs:s.length < 2 ^ 62):kM t s=some (chk t s):=by
 by_cases ht:1≤t∧t≤4
 ·rw [Ez ht]
  rcases four ht with rfl | rfl | rfl | rfl
  ·have:=Oc (s:=s) (n:=1)
   simp only [Int.cast_ofNat_Int] at this
   simp [kM,kJ,kK,SOk]
   by_cases h:s.length≤1
   ·have h':(s.length:Int)≤1:=by omega
    simp [h,h']
   ·have h':¬ (s.length:Int)≤1:=by omega
    simp [h,h']
  ·simp [kM,kJ,oo,SOk]
   by_cases h:s.length≤64
   ·have h':(s.length:Int)≤64:=by omega
    simp [h,h']
   ·have h':¬ (s.length:Int)≤64:=by omega
    simp [h,h']
  ·simp [kM,kJ,Dn hs,SOk]
   by_cases h:Asc s <;> by_cases h':s.length≤64 <;> simp [h,h']
  ·simp [kM,kJ,lC,SOk]
   by_cases h:s.length=1
   ·have h':(s.length:Int)=1:=by omega
    simp [h,h']
   ·have h':((s.length:Int) == 1)=false:=by rw [beq_eq_false_iff_ne]; omega
    simp [h,h']
 ·rw [chk,if_neg ht]
  simp [kM,EW ht]
theorem EX {s:List Int} (hs:s.length < 2 ^ 62):iter (kR s) (decide ((s.length:Int)≤64),1)=some (if decide (Asc s) && decide (s.length≤64) then 0 else 80):=by
 refine gI.1 ?_;refine eZ (k0:=1) (s.length + 1) (fun k x=>x.2=(k:Int)∧1≤k∧(x.1=true↔s.length≤64∧∀ j:Nat,j + 1 < k→j + 1 < s.length→idx s (j:Int) < idx s ((j + 1:Nat):Int))) (by omega)
  ⟨rfl,Nat.le_refl _,⟨fun h=>⟨by have:=of_decide_eq_true h; omega,fun j hj=>by omega⟩,fun h=>decide_eq_true (by omega)⟩⟩ ?_
 rintro k ⟨b,x⟩ hk ⟨hx,a0,hJ⟩;have hx:x=(k:Int):=hx;subst hx;unfold kR;refine kC (fun h => ?_) (fun h => ?_)
 ·have h:(k:Int) < s.length:=of_decide_eq_true h;have e:=qH (k:=k) (by omega) a0;refine kC (fun hb => ?_) (fun hb => ?_)
  ·have hb':=hJ.1 hb;refine ax (by rw [e]; omega) (ax (by omega) ⟨_,rfl,by omega,bN (by omega),by omega,?_⟩)
   show decide _=true↔_
   rw [e,decide_eq_true_iff]
   constructor
   ·intro h2;refine ⟨hb'.1,fun j hj hl => ?_⟩;rcases Nat.lt_or_ge (j + 1) k with h3 | h3
    ·exact hb'.2 j h3 hl
    ·have:j=k - 1:=by omega
     subst this
     rw [show k - 1 + 1=k by omega]
     omega
   ·rintro ⟨_,h2⟩;have:=h2 (k - 1) (by omega) (by omega)
    rw [show k - 1 + 1=k by omega] at this
    omega
  ·refine ⟨_,rfl,by omega,bN (by omega),by omega,?_⟩
   show false=true↔_
   constructor
   ·intro h; cases h
   ·rintro ⟨h1,h2⟩;have:=hJ.2 ⟨h1,fun j hj=>h2 j (by omega)⟩;have hb:b=false:=hb
    rw [hb] at this
    cases this
 ·have h:¬ (k:Int) < s.length:=of_decide_eq_false h;refine aK ?_;have hb:b=(decide (Asc s) && decide (s.length≤64)):=by
   rw [Bool.eq_iff_iff,hJ]
   simp only [Bool.and_eq_true,decide_eq_true_eq]
   exact ⟨fun h=>⟨fun j hj=>h.2 j (by omega) hj,h.1⟩,fun h=>⟨h.2,fun j _ hj=>h.1 j hj⟩⟩
  unfold ed
  rw [← hb]
  cases b
  ·exact ⟨_,rfl,rfl⟩
  ·exact ⟨_,rfl,rfl⟩
theorem Dp (t:Int) {s:List Int} (hs:s.length < 2 ^ 62):aJ t s=some (chk t s):=by
 by_cases ht:1≤t∧t≤4
 ·rw [Ez ht]
  rcases four ht with rfl | rfl | rfl | rfl
  ·simp [aJ,eu,ed,SOk]
   by_cases h:s.length≤1
   ·have h':(s.length:Int)≤1:=by omega
    simp [h,h']
   ·have h':¬ (s.length:Int)≤1:=by omega
    simp [h,h']
  ·simp [aJ,eu,ed,SOk]
   by_cases h:s.length≤64
   ·have h':(s.length:Int)≤64:=by omega
    simp [h,h']
   ·have h':¬ (s.length:Int)≤64:=by omega
    simp [h,h']
  ·simp [aJ,eu]
   have:=EX hs
   simp at this
   rw [this]
   simp [SOk]
  ·simp [aJ,eu,ed,SOk]
   by_cases h:s.length=1
   ·have h':(s.length:Int)=1:=by omega
    simp [h,h']
   ·have h':((s.length:Int) == 1)=false:=by rw [beq_eq_false_iff_ne]; omega
    simp [h,h']
 ·rw [chk,if_neg ht]
  by_cases h1:t < 1
  ·simp [aJ,eu,h1]
  ·have:t > 4:=by omega
   simp [aJ,eu,h1,this]
def lb (s:List Int) (a:Int):Nat:=s.findIdx (fun x=>decide (a≤x))
def hit (s:List Int) (a:Int):Bool:=decide (lb s a < s.length) && (idx s (lb s a:Int) == a)
def ins (s:List Int) (a:Int):List Int:=s.take (lb s a)++((if hit s a then [] else [a])++s.drop (lb s a))
theorem KQ (s:List Int) (a:Int):lb s a≤s.length:=List.findIdx_le_length
theorem NN {s:List Int} {a:Int} {k:Nat} (h:k < lb s a):idx s (k:Int) < a:=by
 have h1:k < s.length:=Nat.lt_of_lt_of_le h (KQ s a)
 rw [iZ h1]
 have:=List.not_of_lt_findIdx (p:=fun x=>decide (a≤x)) (xs:=s) h
 simpa using this
theorem NP {s:List Int} {a:Int} (h:lb s a < s.length):a≤idx s (lb s a:Int):=by
 rw [iZ h]
 have:=List.findIdx_getElem (p:=fun x=>decide (a≤x)) (xs:=s) (w:=h);exact of_decide_eq_true this
theorem Nq {s:List Int} {a:Int} {i:Nat} (hi:i≤s.length) (h1:∀ k:Nat,k < i→idx s (k:Int) < a) (h2:i < s.length→a≤idx s (i:Int)):lb s a=i:=by
 rcases Nat.lt_trichotomy (lb s a) i with h | h | h
 ·have:=NP (s:=s) (a:=a) (by omega);have:=h1 _ h
  omega
 ·exact h
 ·have h3:=NN h;have:=h2 (by have:=KQ s a; omega)
  omega
theorem MF {i j:Nat} (hi:i < 2 ^ 62) (hj:j < 2 ^ 62):w64 (fA .u64 (IntKind.wrap .u64 (w64 ((i:Int) + (j:Int)))) (1:Int))=(((i + j) / 2:Nat):Int):=by
 have e1:w64 ((i:Int) + (j:Int))=((i + j:Nat):Int):=by rw [oJ (by omega) (by omega)]; omega
 rw [e1,wrap_u64 (by omega),Gw (n:=1) (i:=(1:Int)) rfl (by omega),oJ (by omega) (by omega)]
 simp [Nat.shiftRight_eq_div_pow]
theorem Jr (a b:Int):nP a b=some (decide (a < b)):=by simp [nP,mP]
theorem FX {s:List Int} (a:Int) (hA:Asc s) (hs:s.length < 2 ^ 62):bK s a=some ((lb s a:Int),hit s a):=by
 unfold bK;refine gI.1 ?_;have hP:=List.pairwise_iff_getElem.1 (zl.1 hA);have hmono:∀ p q:Nat,p≤q→q < s.length→idx s (p:Int)≤idx s (q:Int):=by
  intro p q hpq hq;rcases Nat.lt_or_ge p q with h | h
  ·rw [iZ (by omega),iZ hq]
   exact Int.le_of_lt (hP p q (by omega) hq h)
  ·have:p=q:=by omega
   subst this;exact Int.le_refl _
 refine DF (fun x:Int×Int=>∃ i j:Nat,x=((i:Int),(j:Int))∧i≤j∧j≤s.length∧(∀ k:Nat,k < i→idx s (k:Int) < a)∧(j < s.length→a≤idx s (j:Int))) (fun x=>x.2.toNat - x.1.toNat)
  ⟨0,s.length,rfl,by omega,by omega,fun k h=>by omega,fun h=>by omega⟩ ?_
 rintro _ ⟨i,j,rfl,hij,hj,h1,h2⟩;unfold jq;refine kC (fun h => ?_) (fun h => ?_)
 ·have h:(i:Int) < j:=of_decide_eq_true h;have e:=MF (i:=i) (j:=j) (by omega) (by omega)
  rw [e]
  refine ax (by decide) (ax (by omega) ?_)
  rw [Jr]
  show Tri (bif decide _ then _ else _) _
  have hm:(i + j) / 2 < j:=by omega
  have a0:i≤(i + j) / 2:=by omega
  generalize (i + j) / 2=m at hm a0;refine kC (fun h3 => ?_) (fun h3 => ?_)
  ·have h3:idx s (m:Int) < a:=of_decide_eq_true h3;refine ⟨_,rfl,⟨m + 1,j,by rw [bN (by omega)],by omega,hj,fun k hk => ?_,h2⟩,?_⟩
   ·exact Int.lt_of_le_of_lt (hmono k m (by omega) (by omega)) h3
   ·rw [bN (by omega)]; simp only [Int.toNat_natCast]; omega
  ·have h3:¬ idx s (m:Int) < a:=of_decide_eq_false h3;refine ⟨_,rfl,⟨i,m,rfl,a0,by omega,h1,fun _=>by omega⟩,?_⟩
   simp only [Int.toNat_natCast]; omega
 ·have h:¬ (i:Int) < j:=of_decide_eq_false h;have hji:j=i:=by omega
  subst hji;have hl:lb s a=j:=Nq hj h1 h2;refine kC (fun h3 => ?_) (fun h3 => ?_)
  ·have h3:(j:Int) < s.length:=of_decide_eq_true h3;have hlt:j < s.length:=by omega
   refine ax (by omega) (kC (fun h4 => ?_) (fun h4 => ?_))
   ·refine aK (aj ?_)
    simp [Rnd,hl,hit,hlt,h4]
   ·simp only [jL,Option.bind_some,bne_self_eq_false,cond_false]
    refine aK (aj ?_)
    simp [Rnd,hl,hit,hlt,h4]
  ·have h3:¬ (j:Int) < s.length:=of_decide_eq_false h3;have hlt:¬ j < s.length:=by omega
   refine aK (aj ?_)
   simp [Rnd,hl,hit,hlt]
theorem MG {s:List Int} {a:Int} (hA:Asc s):hit s a=true↔a ∈ s:=by
 unfold hit
 simp only [Bool.and_eq_true,decide_eq_true_eq,beq_iff_eq]
 constructor
 ·rintro ⟨h1,h2⟩
  rw [iZ h1] at h2
  exact h2 ▸ List.getElem_mem h1
 ·intro h;obtain ⟨k,hk,e⟩:=List.getElem_of_mem h;have hP:=List.pairwise_iff_getElem.1 (zl.1 hA);have:lb s a=k:=by
   refine Nq (by omega) (fun j hj => ?_) (fun _ => ?_)
   ·rw [iZ (by omega),← e]; exact hP j k (by omega) hk hj
   ·rw [iZ hk,e]; exact Int.le_refl _
  rw [this]
  exact ⟨hk,by rw [iZ hk,e]⟩
def next (t:Int) (s:List Int) (a:Int):List Int:=if t=1 then [a] else if t=2 then s++[a] else if t=3 then ins s a else [w64 (idx s 0 + a)]
def app (t:Int) (s:List Int) (a:Int):List Int×Int :=
 if chk t s≠0 then ([],chk t s) else if (next t s a).length > 64 then ([],2) else (next t s a,0)
theorem KR {t:Int} {s:List Int} (h:chk t s=0):1≤t∧t≤4∧SOk t s=true:=by
 unfold chk at h
 split at h
 ·rename_i h1
  split at h
  ·exact ⟨h1.1,h1.2,by assumption⟩
  ·cases h
 ·cases h
theorem KS {t:Int} {s:List Int} (h:SOk t s=true):s.length≤64:=by
 simp only [SOk,Bool.or_eq_true,Bool.and_eq_true,decide_eq_true_eq,beq_iff_eq] at h
 omega
theorem Nw {s:List Int} (h:SOk 3 s=true):Asc s:=by
 simp [SOk] at h
 exact h.1
theorem ok_one {s:List Int} (h:SOk 4 s=true):s.length=1:=by
 simp [SOk] at h
 exact h
def start (t:Int):List Int×Int:=if 1≤t∧t≤4 then (if t=4 then [0] else [],0) else ([],1)
def step (t:Int) (x:List Int×Int) (a:Int):List Int×Int:=if x.2=0 then app t x.1 a else x
theorem EA {a b:List Int} (ha:a.length < 2 ^ 62):dC a b=some (decide (a=b)):=by
 unfold dC
 by_cases hl:a.length=b.length
 ·have:((a.length:Int) != (b.length:Int))=false:=by simp; omega
  rw [this,cond_false]
  refine gI.1 ?_;refine DI a.length (fun k=>∀ j:Nat,j < k→idx a (j:Int)=idx b (j:Int)) (fun j h=>by omega) (fun k hk hJ => ?_);unfold lN;refine kC (fun h => ?_) (fun h => ?_)
  ·have h:(k:Int) < a.length:=of_decide_eq_true h;refine ax (by omega) (ax (by omega) (kC (fun h2 => ?_) (fun h2 => ?_)))
   ·have h2:idx a (k:Int)≠idx b (k:Int):=by simpa using h2
    refine aK (aj ?_)
    show false=_
    have:a≠b:=fun e=>h2 (by rw [e])
    simp [this]
   ·have h2:idx a (k:Int)=idx b (k:Int):=by simpa using h2
    refine ⟨_,rfl,bN (by omega),by omega,fun j hj => ?_⟩
    rcases Nat.lt_or_ge j k with h3 | h3
    ·exact hJ j h3
    ·have:j=k:=by omega
     subst this;exact h2
  ·have h:¬ (k:Int) < a.length:=of_decide_eq_false h;refine aK (aj ?_)
   show true=_
   have:a=b:=Lr hl (fun j hj=>hJ j (by omega))
   simp [this]
 ·have:((a.length:Int) != (b.length:Int))=true:=by simp; omega
  rw [this,cond_true]
  have:a≠b:=fun e=>hl (by rw [e])
  simp [this]
end Go.Proofs.YtfpeabnehpclnaaGreatT
namespace Go.Proofs.YtfpeabnehpclnaaGreatT
open Go Go.Proofs Go.Proofs.YtfpeabnehpclnaaGreatE
set_option linter.unusedVariables false
set_option linter.unusedSimpArgs false
theorem EY {s:List Int} (a:Int) (hs:s.length < 2 ^ 62):fO s a=some (decide (a ∈ s)):=by
 unfold fO;refine gI.1 ?_;refine DI s.length (fun k=>∀ j:Nat,j < k→idx s (j:Int)≠a) (fun j h=>by omega) (fun k hk hJ => ?_);unfold qz;refine kC (fun h => ?_) (fun h => ?_)
 ·have h:(k:Int) < s.length:=of_decide_eq_true h;have hks:k < s.length:=by omega
  refine ax (by omega) (kC (fun h2 => ?_) (fun h2 => ?_))
  ·have h2:idx s (k:Int)=a:=by simpa using h2
   refine aK (aj ?_)
   show true=_
   have:a ∈ s:=by rw [← h2,iZ hks]; exact List.getElem_mem _
   simp [this]
  ·have h2:idx s (k:Int)≠a:=by simpa using h2
   refine ⟨_,rfl,bN (by omega),by omega,fun j hj => ?_⟩
   rcases Nat.lt_or_ge j k with h3 | h3
   ·exact hJ j h3
   ·have:j=k:=by omega
    subst this;exact h2
 ·have h:¬ (k:Int) < s.length:=of_decide_eq_false h;refine aK (aj ?_)
  show false=_
  have:a ∉ s:=by
   intro hm;obtain ⟨j,hj,e⟩:=List.getElem_of_mem hm;exact hJ j (by omega) (by rw [iZ hj,e])
  simp [this]
theorem Dq {a b:List Int} (ha:a.length < 2 ^ 62):dO a b=some (decide (a=b)):=by
 rw [← EA ha]
 rfl
def Fit (s args:List Int):Prop:=∀ k:Nat,k < args.length→idx args (k:Int) ∈ s∧idx args (k:Int) ∉ args.take k
instance (s args:List Int):Decidable (Fit s args):=by unfold Fit; infer_instance
def before (t:Int) (s args:List Int):List Int×Bool :=
 if chk t s≠0∨args=[] then ([],false)
 else if t=1 then ([],decide (s.length=1∧idx s 0=idx args ((args.length - 1:Nat):Int)))
 else if t=2 then (if args.length≤s.length∧s.drop (s.length - args.length)=args then (s.take (s.length - args.length),true) else ([],false))
 else if t=3 then (if Fit s args then (s.filter (fun x=>decide (x ∉ args)),true) else ([],false))
 else ([args.foldl (fun v a=>w64 (v - a)) (idx s 0)],true)
theorem Bg {s args:List Int} (hs:args.length < 2 ^ 62) (v:Int):iter (iY args) (v,0)=some ([args.foldl (fun v a=>w64 (v - a)) v],true):=by
 refine gI.1 ?_;refine Bu args.length (fun k x=>x=(args.take k).foldl (fun v a=>w64 (v - a)) v) rfl (fun k x hk hJ => ?_);subst hJ;unfold iY;refine kC (fun h => ?_) (fun h => ?_)
 ·have h:(k:Int) < args.length:=of_decide_eq_true h;have hks:k < args.length:=by omega
  refine ax (by omega) ⟨_,rfl,bN (by omega),hks,?_⟩
  show _=List.foldl _ _ _
  rw [List.take_add_one,List.getElem?_eq_getElem hks,List.foldl_append,iZ hks]
  rfl
 ·have h:¬ (k:Int) < args.length:=of_decide_eq_false h;refine aK (aj ?_)
  show ([_],true)=_
  rw [List.take_of_length_le (by omega)]
theorem Js {s args:List Int} (hs:s.length < 2 ^ 43) (hm:args.length≤s.length):iter (jY s args) 0=some (if s.drop (s.length - args.length)=args then (s.take (s.length - args.length),true) else ([],false)):=by
 have e1:w64 ((s.length:Int) - (args.length:Int))=((s.length - args.length:Nat):Int):=by rw [oJ (by omega) (by omega)]; omega
 refine gI.1 ?_;refine DI args.length (fun k=>∀ j:Nat,j < k→idx s ((s.length - args.length + j:Nat):Int)=idx args (j:Int)) (fun j h=>by omega) (fun k hk hJ => ?_);unfold jY;refine kC (fun h => ?_) (fun h => ?_)
 ·have h:(k:Int) < args.length:=of_decide_eq_true h;have hks:k < args.length:=by omega
  have e2:w64 (w64 ((s.length:Int) - (args.length:Int)) + (k:Int))=((s.length - args.length + k:Nat):Int):=by rw [e1,oJ (by omega) (by omega)]; omega
  rw [e2]
  refine ax (by omega) (ax (by omega) (kC (fun h2 => ?_) (fun h2 => ?_)))
  ·have h2:idx s ((s.length - args.length + k:Nat):Int)≠idx args (k:Int):=by simpa using h2
   refine aK (aj ?_)
   show ([],false)=_
   have:¬ s.drop (s.length - args.length)=args:=by
    intro e
    apply h2
    have h3:(s.drop (s.length - args.length))[k]? = args[k]? := by rw [e]
    rw [List.getElem?_drop,List.getElem?_eq_getElem (by omega),List.getElem?_eq_getElem hks] at h3
    rw [iZ (by omega),iZ hks]
    exact Option.some.inj h3
   rw [if_neg this]
  ·have h2:idx s ((s.length - args.length + k:Nat):Int)=idx args (k:Int):=by simpa using h2
   refine ⟨_,rfl,bN (by omega),by omega,fun j hj => ?_⟩
   rcases Nat.lt_or_ge j k with h3 | h3
   ·exact hJ j h3
   ·have:j=k:=by omega
    subst this;exact h2
 ·have h:¬ (k:Int) < args.length:=of_decide_eq_false h;have hd:s.drop (s.length - args.length)=args:=by
   refine List.ext_getElem (by simp; omega) (fun j h1 h2 => ?_);have:=hJ j (by omega)
   rw [iZ (by omega),iZ h2] at this
   rw [List.getElem_drop]
   exact this
  rw [e1]
  have hsl:eD s (0:Int) ((s.length - args.length:Nat):Int)=s.take (s.length - args.length):=by simp [eD]
  rw [hsl]
  refine ax (by omega) (ax ⟨by simp; omega,by simp; omega⟩ (aK (aj ?_)))
  show ([]++s.take _,true)=_
  rw [if_pos hd,List.nil_append]
theorem Bh {s args:List Int} (hs:s.length < 2 ^ 43) (ha:args.length < 2 ^ 62):dP () s args=some (if args.length≤s.length∧s.drop (s.length - args.length)=args then (s.take (s.length - args.length),true) else ([],false)):=by
 unfold dP
 by_cases hm:args.length≤s.length
 ·have e1:w64 ((s.length:Int) - (args.length:Int))=((s.length - args.length:Nat):Int):=by rw [oJ (by omega) (by omega)]; omega
  have hlt:decide (w64 ((s.length:Int) - (args.length:Int)) < 0)=false:=decide_eq_false (by rw [e1]; omega)
  rw [hlt,cond_false,lX _ (by rw [e1]; omega),e1]
  have hsl:eD s ((s.length - args.length:Nat):Int) (s.length:Int)=s.drop (s.length - args.length):=by simp [eD]
  have a0:eD s (0:Int) ((s.length - args.length:Nat):Int)=s.take (s.length - args.length):=by simp [eD]
  rw [hsl,Dq (by simp; omega)]
  simp only [Option.bind_some]
  unfold iL
  rw [e1,a0,lX _ (by omega)]
  have hc:fG (s.take (s.length - args.length))=some (s.take (s.length - args.length)):=lX _ (by simp; omega)
  rw [hc]
  by_cases he:s.drop (s.length - args.length)=args
  ·simp [he,hm]
  ·simp [he]
 ·have hlt:decide (w64 ((s.length:Int) - (args.length:Int)) < 0)=true:=decide_eq_true (by rw [oJ (by omega) (by omega)]; omega)
  rw [hlt,cond_true,iL,cond_true,if_neg (fun h=>hm h.1)]
theorem Ho {s:List Int} (p:Int→Bool) (h:Asc s):Asc (s.filter p):=zl.2 ((zl.1 h).filter p)
theorem EB {args:List Int} {k:Nat} (h:k < args.length):args.take (k + 1)=args.take k++[idx args (k:Int)]:=by
 rw [List.take_add_one,List.getElem?_eq_getElem h,iZ h]; rfl
theorem FY {s args:List Int} {k:Nat} (h:k < args.length):s.filter (fun x=>decide (x ∉ args.take (k + 1)))=(s.filter (fun x=>decide (x ∉ args.take k))).filter (fun x=>decide (x≠idx args (k:Int))):=by
 rw [List.filter_filter]
 apply List.filter_congr
 intro x _
 rw [EB h]
 simp only [List.mem_append,List.mem_singleton,not_or]
 rw [Bool.eq_iff_iff]
 simp only [decide_eq_true_eq,Bool.and_eq_true]
 exact ⟨fun h=>⟨h.2,h.1⟩,fun h=>⟨h.2,h.1⟩⟩
theorem Hq {l:List Int} {a:Int} (hA:Asc l) (h:hit l a=true):l.take (lb l a)++l.drop (lb l a + 1)=l.filter (fun x=>decide (x≠a)):=by
 have hP:=List.pairwise_iff_getElem.1 (zl.1 hA)
 simp only [hit,Bool.and_eq_true,decide_eq_true_eq,beq_iff_eq] at h
 obtain ⟨h1,h2⟩:=h
 rw [iZ h1] at h2
 generalize lb l a=i at h1 h2
 conv=>rhs; rw [← List.take_append_drop i l,List.drop_eq_getElem_cons h1,List.filter_append,List.filter_cons,h2]
 rw [if_neg (by simp)]
 congr 1
 ·symm
  rw [List.filter_eq_self]
  intro x hx;obtain ⟨j,hj,rfl⟩:=List.getElem_of_mem hx;have hj':j < i:=by simp at hj; omega
  have:=hP j i (by omega) h1 hj'
  rw [List.getElem_take,decide_eq_true_eq]
  omega
 ·symm
  rw [List.filter_eq_self]
  intro x hx;obtain ⟨j,hj,rfl⟩:=List.getElem_of_mem hx;have hj':i + 1 + j < l.length:=by simp at hj; omega
  have:=hP i (i + 1 + j) h1 hj' (by omega)
  rw [List.getElem_drop,decide_eq_true_eq]
  omega
theorem BZ {s args:List Int} (hA:Asc s) (hs:s.length < 2 ^ 43) (ha:args.length < 2 ^ 62):eY () s args=some (if Fit s args then (s.filter (fun x=>decide (x ∉ args)),true) else ([],false)):=by
 unfold eY;have hc:fG s=some s:=lX _ (by omega)
 rw [hc]
 refine gI.1 ?_
 show Tri (iter (kN args) (s,0)) _
 refine Bu args.length (fun k l=>l=s.filter (fun x=>decide (x ∉ args.take k))∧∀ j:Nat,j < k→idx args (j:Int) ∈ s∧idx args (j:Int) ∉ args.take j) ⟨by simp; exact (List.filter_eq_self.2 (fun _ _=>rfl)).symm,fun j h=>by omega⟩ (fun k l hk hJ => ?_)
 obtain ⟨hl,hJ⟩:=hJ;have hAl:Asc l:=by rw [hl]; exact Ho _ hA
 have hll:l.length≤s.length:=by rw [hl]; exact List.length_filter_le _ _
 unfold kN;refine kC (fun h => ?_) (fun h => ?_)
 ·have h:(k:Int) < args.length:=of_decide_eq_true h;have hks:k < args.length:=by omega
  refine ax (by omega) ?_
  rw [FX _ hAl (by omega)]
  have hm:=MG (s:=l) (a:=idx args (k:Int)) hAl
  show Tri (bif !hit l (idx args (k:Int)) then _ else _) _
  cases hh:hit l (idx args (k:Int))
  ·simp only [Bool.not_false,cond_true]
   refine aK (aj ?_)
   show ([],false)=_
   have hn:¬ Fit s args:=by
    intro hF;have h1:=hF k hks;have:idx args (k:Int) ∈ l:=by rw [hl,List.mem_filter]; exact ⟨h1.1,by simpa using h1.2⟩
    rw [hm.2 this] at hh
    cases hh
   rw [if_neg hn]
  ·simp only [Bool.not_true,cond_false]
   have hi:=KQ l (idx args (k:Int));have hlt:lb l (idx args (k:Int)) < l.length:=by
    simp only [hit,Bool.and_eq_true,decide_eq_true_eq] at hh
    exact hh.1
   have hd:jv l (lb l (idx args (k:Int)):Int) (w64 ((lb l (idx args (k:Int)):Int) + 1))=some (l.filter (fun x=>decide (x≠idx args (k:Int)))):=by
    unfold jv
    rw [bN (by omega),lX _ ⟨by omega,by omega,by omega⟩,Int.toNat_natCast,Int.toNat_natCast,Hq hAl hh]
   rw [hd]
   refine ⟨_,rfl,bN (by omega),hks,?_,fun j hj => ?_⟩
   ·rw [FY hks,← hl]
   ·rcases Nat.lt_or_ge j k with h3 | h3
    ·exact hJ j h3
    ·have:j=k:=by omega
     subst this;have hmem:=hm.1 hh
     rw [hl,List.mem_filter] at hmem
     exact ⟨hmem.1,by simpa using hmem.2⟩
 ·have h:¬ (k:Int) < args.length:=of_decide_eq_false h;have hF:Fit s args:=fun j hj=>hJ j (by omega);refine aK (aj ?_)
  show (l,true)=_
  rw [if_pos hF,hl,List.take_of_length_le (by omega)]
theorem Cy {s args:List Int} (hs:s.length < 2 ^ 43) (ha:args.length < 2 ^ 62):iter (jZ s args) ([],0)=some (.inr (s.filter (fun x=>decide (x ∉ args)),true)):=by
 refine gI.1 ?_;refine Bu s.length (fun k l=>l=(s.take k).filter (fun x=>decide (x ∉ args))) (by simp) (fun k l hk hJ => ?_);have hll:l.length≤k:=by rw [hJ]; exact Nat.le_trans (List.length_filter_le _ _) (by simp; omega)
 unfold jZ;refine kC (fun h => ?_) (fun h => ?_)
 ·have h:(k:Int) < s.length:=of_decide_eq_true h;have hks:k < s.length:=by omega
  refine ax (by omega) ?_
  rw [EY _ ha]
  show Tri (bif !decide _ then _ else _) _
  have hn:(s.take (k + 1)).filter (fun x=>decide (x ∉ args))=l++(if idx s (k:Int) ∈ args then [] else [idx s (k:Int)]):=by
   rw [EB hks,List.filter_append,← hJ]
   congr 1
   by_cases hm:idx s (k:Int) ∈ args <;> simp [hm]
  by_cases hm:idx s (k:Int) ∈ args
  ·simp only [hm,decide_true,Bool.not_true,cond_false]
   refine ⟨_,rfl,bN (by omega),hks,?_⟩
   show l=_
   rw [hn,if_pos hm,List.append_nil]
  ·simp only [hm,decide_false,Bool.not_false,cond_true]
   refine ax ⟨by omega,by omega⟩ ⟨_,rfl,bN (by omega),hks,?_⟩
   show l++[idx s (k:Int)]=_
   rw [hn,if_neg hm]
 ·have h:¬ (k:Int) < s.length:=of_decide_eq_false h;refine aK (aK (aj ?_))
  show Sum.inr (l,true)=_
  rw [hJ,List.take_of_length_le (by omega)]
theorem EZ {s args:List Int} (hs:s.length < 2 ^ 43) (ha:args.length < 2 ^ 62):iter (kg s args) 0=some (if Fit s args then (s.filter (fun x=>decide (x ∉ args)),true) else ([],false)):=by
 refine gI.1 ?_;refine DI args.length (fun k=>∀ j:Nat,j < k→idx args (j:Int) ∈ s∧idx args (j:Int) ∉ args.take j) (fun j h=>by omega) (fun k hk hJ => ?_);unfold kg;refine kC (fun h => ?_) (fun h => ?_)
 ·have h:(k:Int) < args.length:=of_decide_eq_true h;have hks:k < args.length:=by omega
  refine ax (by omega) ?_
  rw [EY _ (by omega)]
  have hfail:¬ (idx args (k:Int) ∈ s∧idx args (k:Int) ∉ args.take k)→Tri (iQ (k:Int) true) (Up args.length k (fun k=>∀ j:Nat,j < k→idx args (j:Int) ∈ s∧idx args (j:Int) ∉ args.take j) (fun r=>r=(if Fit s args then (s.filter (fun x=>decide (x ∉ args)),true) else ([],false)))):=by
   intro hn;refine aK (aj ?_)
   show ([],false)=_
   rw [if_neg (fun hF=>hn (hF k hks))]
  have hsl:eD args (0:Int) (k:Int)=args.take k:=by simp [eD]
  show Tri (bif !decide _ then _ else _) _
  by_cases hm:idx args (k:Int) ∈ s
  ·simp only [hm,decide_true,Bool.not_true,cond_false]
   refine ax (by omega) ?_
   rw [hsl,EY _ (by simp; omega)]
   show Tri (iQ (k:Int) (decide _)) _
   by_cases a0:idx args (k:Int) ∈ args.take k
   ·simp only [a0,decide_true]
    exact hfail (fun h=>h.2 a0)
   ·simp only [a0,decide_false]
    refine ⟨_,rfl,bN (by omega),hks,fun j hj => ?_⟩;rcases Nat.lt_or_ge j k with h3 | h3
    ·exact hJ j h3
    ·have:j=k:=by omega
     subst this;exact ⟨hm,a0⟩
  ·simp only [hm,decide_false,Bool.not_false,cond_true]
   exact hfail (fun h=>hm h.1)
 ·have h:¬ (k:Int) < args.length:=of_decide_eq_false h;have hF:Fit s args:=fun j hj=>hJ j (by omega)
  rw [Cy hs ha]
  rw [if_pos hF]
  exact ⟨_,rfl,rfl⟩
theorem FZ {s args:List Int} (ha:args.length < 2 ^ 62) (h0:args≠[]):gY () s args=some ([],decide (s.length=1∧idx s 0=idx args ((args.length - 1:Nat):Int))):=by
 unfold gY;have hp:0 < args.length:=List.length_pos_iff.2 h0;have e1:w64 ((args.length:Int) - 1)=((args.length - 1:Nat):Int):=qH ha hp
 rw [e1]
 by_cases h1:s.length=1
 ·have h2:((s.length:Int) == 1)=true:=by rw [beq_iff_eq]; omega
  rw [h2,cond_true,lX _ (by omega),lX _ (by omega)]
  simp [h1]
  rw [Bool.eq_iff_iff]; simp
 ·have h2:((s.length:Int) == 1)=false:=by rw [beq_eq_false_iff_ne]; omega
  rw [h2,cond_false]
  simp [h1]
theorem Bi (t:Int) {s args:List Int} (hs:s.length < 2 ^ 62) (ha:args.length < 2 ^ 62):gM t s args=some (before t s args):=by
 unfold gM before
 rw [BX t hs]
 by_cases hc:chk t s=0
 ·obtain ⟨h1,h2,h3⟩:=KR hc;have hl:=KS h3
  simp only [hc,Option.bind_some,bne_self_eq_false,cond_false,ne_eq,not_true,false_or]
  by_cases h0:args=[]
  ·subst h0
   simp [kG]
  ·have hp:((args.length:Int) == 0)=false:=by
    have:0 < args.length:=List.length_pos_iff.2 h0
    rw [beq_eq_false_iff_ne]; omega
   rw [hp,if_neg h0]
   unfold kG;rcases four ⟨h1,h2⟩ with rfl | rfl | rfl | rfl
   ·simp [kJ,FZ ha h0]
   ·simp [kJ,Bh (s:=s) (by omega) ha]
   ·simp [kJ,BZ (Nw h3) (by omega) ha]
   ·have:=ok_one h3
    simp [kJ,dS]
    rw [lX _ (by omega),Bg (s:=s) ha]
    simp
 ·have:(chk t s != 0)=true:=by simpa using hc
  simp [hc,this,kG]
theorem Cz (t:Int) {s args:List Int} (hs:s.length < 2 ^ 62) (ha:args.length < 2 ^ 62):aF t s args=some (before t s args):=by
 unfold aF before
 rw [Dp t hs]
 by_cases hc:chk t s=0
 ·obtain ⟨h1,h2,h3⟩:=KR hc;have hl:=KS h3
  simp only [hc,Option.bind_some,bne_self_eq_false,cond_false,ne_eq,not_true,false_or]
  by_cases h0:args=[]
  ·subst h0
   simp [gq]
  ·have hp:((args.length:Int) == 0)=false:=by
    have:0 < args.length:=List.length_pos_iff.2 h0
    rw [beq_eq_false_iff_ne]; omega
   rw [hp,if_neg h0]
   unfold gq;rcases four ⟨h1,h2⟩ with rfl | rfl | rfl | rfl
   ·simp only [cond_false,show ((1:Int) == 1)=true from rfl,cond_true,if_true]
    exact FZ ha h0
   ·by_cases hm:args.length≤s.length
    ·have:¬ (args.length:Int) > s.length:=by omega
     simp [this,Js (s:=s) (by omega) hm,hm]
    ·have:(args.length:Int) > s.length:=by omega
     simp [this,hm]
   ·simp [EZ (s:=s) (by omega) ha]
   ·have:=ok_one h3
    simp
    rw [lX _ (by omega)]
    exact Bg (s:=s) ha _
 ·have:(chk t s != 0)=true:=by simpa using hc
  simp [hc,this,gq]
theorem Fa (t:Int) (s args:List Int):(before t s args).1.length≤s.length + 1:=by
 unfold before
 split
 ·simp
 ·split
  ·simp
  ·split
   ·split <;> simp <;> omega
   ·split
    ·split
     ·exact Nat.le_trans (List.length_filter_le _ _) (by omega)
     ·simp
    ·simp
end Go.Proofs.YtfpeabnehpclnaaGreatT
namespace Go.Proofs.YtfpeabnehpclnaaGreatT
open Go Go.Proofs Go.Proofs.YtfpeabnehpclnaaGreatE
set_option linter.unusedVariables false
set_option linter.unusedSimpArgs false
def sJ (c:Call) (k:Int):Prop :=
 1≤c.Kind∧c.Kind≤8∧1≤c.Key.size∧c.Key.size≤32 ∧
  (c.Kind≤4→c.Got=false∧c.Vals.length=0∧(c.Kind=4 → -1048576≤c.Arg∧c.Arg≤1048576)) ∧
  (5≤c.Kind→c.Arg=0∧(c.Got=true↔k=1)∧(c.Got=false→c.Vals.length=0) ∧
   (c.Got=true→(c.Kind=5→c.Vals.length≤1)∧(c.Kind=8→c.Vals.length=1)∧(c.Kind=7→Asc c.Vals)∧c.Vals.length≤64))
theorem EC {k:ByteArray}:k=(⟨#[]⟩:ByteArray)↔k.size=0:=by
 constructor
 ·rintro rfl; rfl
 ·intro h;obtain ⟨a⟩:=k;have:a = #[]:=Array.eq_empty_of_size_eq_zero h
  rw [this]
theorem KT {c:Call} (hs:c.Vals.length < 2 ^ 61):Tri (iter (rR c) 1) (fun r=>r=true↔(c.Kind=7→Asc c.Vals)):=by
 refine eZ (k0:=1) (c.Vals.length + 1) (fun k x=>x=(k:Int)∧1≤k∧∀ j:Nat,j + 1 < k→j + 1 < c.Vals.length→idx c.Vals (j:Int) < idx c.Vals ((j + 1:Nat):Int)) (by omega) ⟨rfl,Nat.le_refl _,fun j h=>by omega⟩ ?_
 rintro k x hk ⟨rfl,a0,hJ⟩;unfold rR rQ
 dsimp only
 have e:=qH (k:=k) (by omega) a0;have e2:=bN (k:=k) (by omega)
 rw [e,e2]
 repeat' (first | contradiction | with_reducible refine aA (fun hq => ?_) (fun hq => ?_) | with_reducible refine ax (by first | omega | grind [bW]) ?_ | with_reducible refine aK ?_ | with_reducible refine cz ?_ | with_reducible refine dE ?_ | with_reducible refine dF ?_ | with_reducible refine dG ?_ | with_reducible refine aj ?_)
 ·show false=true↔_
  have hl:¬ Asc c.Vals:=by
   intro hA;have:=hA (k - 1) (by omega)
   rw [show k - 1 + 1=k by omega] at this
   omega
  grind
 ·refine ⟨by omega,rfl,by omega,fun j hj hl => ?_⟩
  rcases Nat.lt_or_ge (j + 1) k with h3 | h3
  ·exact hJ j h3 hl
  ·have:j=k - 1:=by omega
   subst this
   rw [show k - 1 + 1=k by omega]
   omega
 ·show true=true↔_
  have hl:Asc c.Vals:=fun j hj=>hJ j (by omega) hj
  grind
 ·show true=true↔_
  grind
theorem CB (c:Call) (k:Int) (hs:c.Vals.length < 2 ^ 61):Tri (bY c k) (fun r=>r=true↔sJ c k):=by
 unfold bY mV rU rT xc sJ
 simp only [cond_true,cond_false]
 have he:=EC (k:=c.Key)
 repeat' (first | contradiction | with_reducible refine aA (fun hq => ?_) (fun hq => ?_) | with_reducible refine ax (by first | omega | grind [bW]) ?_ | with_reducible refine aK ?_ | with_reducible refine cz ?_ | with_reducible refine dE ?_ | with_reducible refine dF ?_ | with_reducible refine dG ?_ | with_reducible refine aj ?_ | refine fq (KT hs) (fun r hr => ?_))
 all_goals grind
theorem MH {c:Call} (hs:c.Vals.length < 2 ^ 61) (hc:c.Kind=7):Tri (iter (lH c) 1) (fun r=>r=true↔(Asc c.Vals∧c.Vals.length≤64)):=by
 refine eZ (k0:=1) (c.Vals.length + 1) (fun k x=>x=(k:Int)∧1≤k∧∀ j:Nat,j + 1 < k→j + 1 < c.Vals.length→idx c.Vals (j:Int) < idx c.Vals ((j + 1:Nat):Int)) (by omega) ⟨rfl,Nat.le_refl _,fun j h=>by omega⟩ ?_
 rintro k x hk ⟨rfl,a0,hJ⟩;unfold lH jA
 dsimp only
 have e:=qH (k:=k) (by omega) a0;have e2:=bN (k:=k) (by omega)
 rw [e,e2]
 repeat' (first | contradiction | with_reducible refine aA (fun hq => ?_) (fun hq => ?_) | with_reducible refine ax (by first | omega | grind [bW]) ?_ | with_reducible refine aK ?_ | with_reducible refine cz ?_ | with_reducible refine dE ?_ | with_reducible refine dF ?_ | with_reducible refine dG ?_ | with_reducible refine aj ?_)
 ·show false=true↔_
  have hl:¬ Asc c.Vals:=by
   intro hA;have:=hA (k - 1) (by omega)
   rw [show k - 1 + 1=k by omega] at this
   omega
  grind
 ·refine ⟨by omega,rfl,by omega,fun j hj hl => ?_⟩
  rcases Nat.lt_or_ge j (k - 1) with h3 | h3
  ·exact hJ j (by omega) hl
  ·have:j=k - 1:=by omega
   subst this
   rw [show k - 1 + 1=k by omega]
   omega
 ·show decide _=true↔_
  have hl:Asc c.Vals:=fun j hj=>hJ j (by omega) hj
  grind
theorem Ej (c:Call) (k:Int) (hs:c.Vals.length < 2 ^ 61):Tri (aY c k) (fun r=>r=true↔sJ c k):=by
 unfold aY iy iw jA sJ
 simp only [cond_true,cond_false]
 have ha:c.Vals.length=0→Asc c.Vals:=fun h j hj=>by omega
 repeat' (first | contradiction | with_reducible refine aA (fun hq => ?_) (fun hq => ?_) | with_reducible refine ax (by first | omega | grind [bW]) ?_ | with_reducible refine aK ?_ | with_reducible refine cz ?_ | with_reducible refine dE ?_ | with_reducible refine dF ?_ | with_reducible refine dG ?_ | with_reducible refine aj ?_ | refine fq (MH hs (by assumption)) (fun r hr => ?_))
 all_goals grind
def Small (l:List Call):Prop:=l.length < 2 ^ 61∧uV l (fun c=>c.Vals.length < 2 ^ 61)
theorem KU {l:List Call} {e:Event} (hs:Small l):Tri (dH l e) (fun r=>r=true ↔ ¬ uV l (fun c=>sJ c e.Kind)):=by
 have h1:Tri (bL l e) (fun r=>0≤r ↔ ¬ uV l (fun c=>sJ c e.Kind)):=by
  have hl:=hs.1;unfold bL;refine qP l.length (fun j=>sJ (idx l (j:Int)) e.Kind) ?_;intro k hk hJ;unfold fU tH
  dsimp only
  repeat' (first | contradiction | with_reducible refine aA (fun hq => ?_) (fun hq => ?_) | with_reducible refine ax (by first | omega | grind [bW]) ?_ | with_reducible refine aK ?_ | with_reducible refine cz ?_ | with_reducible refine dE ?_ | with_reducible refine dF ?_ | with_reducible refine dG ?_ | with_reducible refine aj ?_ | refine ig (CB _ _ (hs.2 k (by omega))) (fun r hr => ?_))
  all_goals grind [Nxt,uV,bW]
 unfold dH;refine ig h1 (fun r hr => ?_)
 repeat' (first | contradiction | with_reducible refine aA (fun hq => ?_) (fun hq => ?_) | with_reducible refine ax (by first | omega | grind [bW]) ?_ | with_reducible refine aK ?_ | with_reducible refine cz ?_ | with_reducible refine dE ?_ | with_reducible refine dF ?_ | with_reducible refine dG ?_ | with_reducible refine aj ?_)
 grind
def Ar (e:Event):Prop:=0≤e.Kind∧e.Kind≤3∧e.Calls.length≤16∧uV e.Calls (fun c=>sJ c e.Kind)
theorem CE {e:Event} (hs:Small e.Calls):Tri (gN [e]) (fun r=>(r=0↔Ar e)∧(r=0∨r=1)):=by
 unfold gN;refine aA (fun h => ?_) (fun h => ?_)
 ·simp at h
 ·refine qP 1 (fun j=>Ar e) ?_;intro k hk hJ;unfold vM oM
  dsimp only
  have hi:k=0→idx [e] (k:Int)=e:=by rintro rfl; rfl
  simp only [cond_true,cond_false]
  have hc:=fun h:k=0=>KU (l:=e.Calls) (e:=e) hs
  by_cases h0:k=0
  ·rw [hi h0]
   repeat' (first | contradiction | with_reducible refine aA (fun hq => ?_) (fun hq => ?_) | with_reducible refine ax (by first | omega | grind [bW]) ?_ | with_reducible refine aK ?_ | with_reducible refine cz ?_ | with_reducible refine dE ?_ | with_reducible refine dF ?_ | with_reducible refine dG ?_ | with_reducible refine aj ?_ | refine ig (hc h0) (fun r hr => ?_))
   all_goals grind [Nxt,Ar,bW]
  ·repeat' (first | contradiction | with_reducible refine aA (fun hq => ?_) (fun hq => ?_) | with_reducible refine ax (by first | omega | grind [bW]) ?_ | with_reducible refine aK ?_ | with_reducible refine cz ?_ | with_reducible refine dE ?_ | with_reducible refine dF ?_ | with_reducible refine dG ?_ | with_reducible refine aj ?_ | refine ig (hc (by grind)) (fun r hr => ?_))
   all_goals grind [Nxt,Ar,bW]
theorem Dr {e:Event} (hs:Small e.Calls):Tri (bV e) (fun r=>r=true↔Ar e):=by
 unfold bV je
 simp only [cond_true,cond_false]
 have hl:=hs.1;have h1:Tri (iter (kP e) 0) (fun r=>r=true↔uV e.Calls (fun c=>sJ c e.Kind)):=by
  refine qP e.Calls.length (fun j=>sJ (idx e.Calls (j:Int)) e.Kind) ?_;intro k hk hJ;unfold kP
  dsimp only
  repeat' (first | contradiction | with_reducible refine aA (fun hq => ?_) (fun hq => ?_) | with_reducible refine ax (by first | omega | grind [bW]) ?_ | with_reducible refine aK ?_ | with_reducible refine cz ?_ | with_reducible refine dE ?_ | with_reducible refine dF ?_ | with_reducible refine dG ?_ | with_reducible refine aj ?_ | refine ig (Ej _ _ (hs.2 k (by omega))) (fun r hr => ?_))
  all_goals grind [Nxt,uV,bW]
 repeat' (first | contradiction | with_reducible refine aA (fun hq => ?_) (fun hq => ?_) | with_reducible refine ax (by first | omega | grind [bW]) ?_ | with_reducible refine aK ?_ | with_reducible refine cz ?_ | with_reducible refine dE ?_ | with_reducible refine dF ?_ | with_reducible refine dG ?_ | with_reducible refine aj ?_ | refine fq h1 (fun r hr => ?_))
 all_goals grind [Ar]
theorem CF {e:Event} (hs:Small e.Calls):Tri (fE [e]) (fun r=>(r=0↔Ar e)∧(r=0∨r=1)):=by
 unfold fE;refine aA (fun h => ?_) (fun h => ?_)
 ·simp at h
 ·refine qP 1 (fun j=>Ar e) ?_;intro k hk hJ;unfold nU
  dsimp only
  have hi:k=0→idx [e] (k:Int)=e:=by rintro rfl; rfl
  have hc:k=0→Tri (bV (idx [e] (k:Int))) (fun r=>r=true↔Ar e):=fun h0=>by rw [hi h0]; exact Dr hs
  repeat' (first | contradiction | with_reducible refine aA (fun hq => ?_) (fun hq => ?_) | with_reducible refine ax (by first | omega | grind [bW]) ?_ | with_reducible refine aK ?_ | with_reducible refine cz ?_ | with_reducible refine dE ?_ | with_reducible refine dF ?_ | with_reducible refine dG ?_ | with_reducible refine aj ?_ | refine ig (hc (by grind)) (fun r hr => ?_))
  all_goals grind [Nxt,bW]
def yO (h:History) (o:Op):Call:=⟨o.Kind,idx h.Keys o.Key,o.Arg,o.Got,o.Vals⟩
def dI (h:History) (t:Txn):List Call:=t.Ops.map (yO h)
def zS (h:History) (t:Txn):Event:=⟨0,t.Status,dI h t⟩
def xA (h:History) (t:Txn):Prop:=uV t.Ops (fun o=>0≤o.Key∧o.Key < (h.Keys.length:Int))
def Dt (t:Txn):Prop:=t.Ops.length * 56≤140737488351232∧uV t.Ops (fun o=>o.Vals.length * 8≤140737488351232)
theorem Dt.small {h:History} {t:Txn} (hs:Dt t) (k:Nat):Small ((dI h t).take k):=by
 have h1:=hs.1;refine ⟨by simp [dI]; omega,fun j hj => ?_⟩
 have hj':j < k∧j < t.Ops.length:=by simp [dI] at hj; omega
 rw [uJ hj'.1,dI,zo hj'.2]
 have:=hs.2 j hj'.2
 show (idx t.Ops (j:Int)).Vals.length < _
 omega
theorem Ca {h:History} {t:Txn} (hs:Dt t):Tri (eH h t) (fun r=>(r.2=true↔xA h t∧Ar (zS h t))∧(r.2=true→r.1=zS h t)):=by
 unfold eH;have hl:=hs.1;refine Bu t.Ops.length (fun k l=>l=(dI h t).take k∧∀ j:Nat,j < k→0≤(idx t.Ops (j:Int)).Key∧(idx t.Ops (j:Int)).Key < (h.Keys.length:Int)) ⟨rfl,by omega⟩ ?_
 rintro k l hk ⟨rfl,hJ⟩;have hlen:((dI h t).take k).length=k:=by simp [dI]; omega
 unfold uf pU tZ
 simp only [cond_true,cond_false,hlen]
 have hsm:=CE (e:=⟨0,t.Status,(dI h t).take k⟩) (hs.small k);have hfull:k=t.Ops.length→(dI h t).take k=dI h t:=fun e=>List.take_of_length_le (by simp [dI]; omega);have hnext:k < t.Ops.length→(dI h t).take (k + 1)=(dI h t).take k++[yO h (idx t.Ops (k:Int))]:=fun hk=>by
  rw [lW (by simpa [dI] using hk),dI,zo hk]
 repeat' (first | contradiction | with_reducible refine aA (fun hq => ?_) (fun hq => ?_) | with_reducible refine ax (by first | omega | grind [bW]) ?_ | with_reducible refine aK ?_ | with_reducible refine cz ?_ | with_reducible refine dE ?_ | with_reducible refine dF ?_ | with_reducible refine dG ?_ | with_reducible refine aj ?_ | refine ig hsm (fun r hr => ?_))
 all_goals grind [Up2,xA,uV,bW,yO,zS]
def ED (l:List Txn) (i:Nat):Prop:=∀ j:Nat,j < i → ¬ ((idx l (j:Int)).Proc=(idx l (i:Int)).Proc∧((idx l (j:Int)).To = -1∨(idx l (j:Int)).To ≥ (idx l (i:Int)).From))
def yP (l:List Txn) (i:Nat):Prop :=
 1≤(idx l (i:Int)).Status∧(idx l (i:Int)).Status≤3∧0≤(idx l (i:Int)).From∧((idx l (i:Int)).To = -1→(idx l (i:Int)).Status=3) ∧
  ((idx l (i:Int)).To ≠ -1→(idx l (i:Int)).From < (idx l (i:Int)).To)∧(0 < i→(idx l ((i - 1:Nat):Int)).From < (idx l (i:Int)).From)∧ED l i
theorem Jt {l:List Txn} {i:Nat} (hi:i < l.length) (hl:l.length < 2 ^ 61):Tri (dB (eD l 0 (i:Int)) (idx l (i:Int))) (fun r=>r=true ↔ ¬ ED l i):=by
 have h1:Tri (bJ (eD l 0 (i:Int)) (idx l (i:Int))) (fun r=>0≤r ↔ ¬ ED l i):=by
  rw [rM (by omega)]
  unfold bJ;have ht:(l.take i).length=i:=by simp; omega
  refine qP i (fun j => ¬ ((idx l (j:Int)).Proc=(idx l (i:Int)).Proc∧((idx l (j:Int)).To = -1∨(idx l (j:Int)).To ≥ (idx l (i:Int)).From))) ?_;intro k hk hJ;unfold fF pV
  dsimp only
  rw [ht]
  have hx:k < i→idx (l.take i) (k:Int)=idx l (k:Int):=fun h=>uJ h
  repeat' (first | contradiction | with_reducible refine aA (fun hq => ?_) (fun hq => ?_) | with_reducible refine ax (by first | omega | grind [bW]) ?_ | with_reducible refine aK ?_ | with_reducible refine cz ?_ | with_reducible refine dE ?_ | with_reducible refine dF ?_ | with_reducible refine dG ?_ | with_reducible refine aj ?_)
  all_goals grind [Nxt,ED,bW]
 unfold dB;refine ig h1 (fun r hr => ?_)
 repeat' (first | contradiction | with_reducible refine aA (fun hq => ?_) (fun hq => ?_) | with_reducible refine ax (by first | omega | grind [bW]) ?_ | with_reducible refine aK ?_ | with_reducible refine cz ?_ | with_reducible refine dE ?_ | with_reducible refine dF ?_ | with_reducible refine dG ?_ | with_reducible refine aj ?_)
 grind
theorem Bj {l:List Txn} {i:Nat} (hi:i < l.length) (hl:l.length < 2 ^ 61):Tri (bU (eD l 0 (i:Int)) (idx l (i:Int))) (fun r=>r=true↔yP l i):=by
 have hf:=Jt hi hl;have hlen:(eD l 0 (i:Int)).length=i:=by rw [rM (by omega)]; simp; omega
 have hx:0 < i→idx (eD l 0 (i:Int)) (w64 ((i:Int) - 1))=idx l ((i - 1:Nat):Int):=fun h=>by
  rw [qH (by omega) (by omega),rM (by omega),uJ (by omega)]
 have hw:0 < i→w64 ((i:Int) - 1)=((i - 1:Nat):Int):=fun h=>qH (by omega) (by omega);unfold bU pq pg oZ mO yP
 simp only [cond_true,cond_false,hlen]
 repeat' (first | contradiction | with_reducible refine aA (fun hq => ?_) (fun hq => ?_) | with_reducible refine ax (by first | omega | grind [bW]) ?_ | with_reducible refine aK ?_ | with_reducible refine cz ?_ | with_reducible refine dE ?_ | with_reducible refine dF ?_ | with_reducible refine dG ?_ | with_reducible refine aj ?_ | refine ig hf (fun r hr => ?_))
 all_goals grind
theorem xN {l:List Txn} {i:Nat} (hi:i < l.length) (hl:l.length < 2 ^ 61):Tri (aO l (i:Int)) (fun r=>r=true↔yP l i):=by
 have h1:Tri (iter (jW l (i:Int)) 0) (fun r=>r=true↔ED l i):=by
  refine qP i (fun j => ¬ ((idx l (j:Int)).Proc=(idx l (i:Int)).Proc∧((idx l (j:Int)).To = -1∨(idx l (j:Int)).To ≥ (idx l (i:Int)).From))) ?_;intro k hk hJ;unfold jW iP
  simp only [cond_true,cond_false]
  repeat' (first | contradiction | with_reducible refine aA (fun hq => ?_) (fun hq => ?_) | with_reducible refine ax (by first | omega | grind [bW]) ?_ | with_reducible refine aK ?_ | with_reducible refine cz ?_ | with_reducible refine dE ?_ | with_reducible refine dF ?_ | with_reducible refine dG ?_ | with_reducible refine aj ?_)
  all_goals grind [Nxt,ED,bW]
 have hw:0 < i→w64 ((i:Int) - 1)=((i - 1:Nat):Int):=fun h=>qH (by omega) (by omega);unfold aO dJ jX yP
 simp only [cond_true,cond_false]
 repeat' (first | contradiction | with_reducible refine aA (fun hq => ?_) (fun hq => ?_) | with_reducible refine ax (by first | omega | grind [bW]) ?_ | with_reducible refine aK ?_ | with_reducible refine cz ?_ | with_reducible refine dE ?_ | with_reducible refine dF ?_ | with_reducible refine dG ?_ | with_reducible refine aj ?_ | refine fq h1 (fun r hr => ?_))
 all_goals grind
def IM (l:List ByteArray) (s:ByteArray) (r:Int):Prop :=
 (r = -1∧∀ j:Nat,j < l.length→idx l (j:Int)≠s)∨(∃ k:Nat,r=(k:Int)∧k < l.length∧idx l (k:Int)=s∧∀ j:Nat,j < k→idx l (j:Int)≠s)
theorem Cb {l:List ByteArray} {s:ByteArray} (hl:l.length < 2 ^ 61):Tri (eQ l s) (IM l s):=by
 unfold eQ;refine qP l.length (fun j=>idx l (j:Int)≠s) ?_;intro k hk hJ;unfold oH
 dsimp only
 repeat' (first | contradiction | with_reducible refine aA (fun hq => ?_) (fun hq => ?_) | with_reducible refine ax (by first | omega | grind [bW]) ?_ | with_reducible refine aK ?_ | with_reducible refine cz ?_ | with_reducible refine dE ?_ | with_reducible refine dF ?_ | with_reducible refine dG ?_ | with_reducible refine aj ?_)
 ·exact .inr ⟨k,rfl,by omega,by assumption,hJ⟩
 ·grind [Nxt,bW]
 ·exact .inl ⟨rfl,fun j hj=>hJ j (by omega)⟩
def Au (l:List ByteArray) (i:Nat):Prop:=1≤(idx l (i:Int)).size∧(idx l (i:Int)).size≤32∧∀ j:Nat,j < i→idx l (j:Int)≠idx l (i:Int)
def qI (l:List ByteArray):Prop:=l.length≤32∧∀ i:Nat,i < l.length→Au l i
theorem El {l:List ByteArray} {s:ByteArray} (hl:l.length < 2 ^ 61):Tri (slices_Contains_string l s) (fun r=>r=true↔∃ j:Nat,j < l.length∧idx l (j:Int)=s):=by
 have h1:Tri (slices_Index_string l s) (fun r=>0≤r↔∃ j:Nat,j < l.length∧idx l (j:Int)=s):=by
  unfold slices_Index_string;refine qP l.length (fun j=>idx l (j:Int)≠s) ?_;intro k hk hJ;unfold mf
  dsimp only
  repeat' (first | contradiction | with_reducible refine aA (fun hq => ?_) (fun hq => ?_) | with_reducible refine ax (by first | omega | grind [bW]) ?_ | with_reducible refine aK ?_ | with_reducible refine cz ?_ | with_reducible refine dE ?_ | with_reducible refine dF ?_ | with_reducible refine dG ?_ | with_reducible refine aj ?_)
  all_goals grind [Nxt,bW]
 unfold slices_Contains_string;refine ig h1 (fun r hr => ?_)
 repeat' (first | contradiction | with_reducible refine aA (fun hq => ?_) (fun hq => ?_) | with_reducible refine ax (by first | omega | grind [bW]) ?_ | with_reducible refine aK ?_ | with_reducible refine cz ?_ | with_reducible refine dE ?_ | with_reducible refine dF ?_ | with_reducible refine dG ?_ | with_reducible refine aj ?_)
 grind
theorem Du {l:List ByteArray} (hl:l.length < 2 ^ 61):Tri (cZ l) (fun r=>r=true↔qI l):=by
 unfold cZ;refine qP l.length (Au l) ?_;intro k hk hJ;unfold nT jd
 simp only [cond_true,cond_false]
 have hf:Tri (eQ (eD l 0 (k:Int)) (idx l (k:Int))) (fun r=>0≤r↔∃ j:Nat,j < k∧idx l (j:Int)=idx l (k:Int)):=by
  rw [rM (by omega)]
  refine fq (Cb (by simp; omega)) (fun r hr => ?_);have ht:(l.take k).length=k:=by simp; omega
  have hx:∀ j:Nat,j < k→idx (l.take k) (j:Int)=idx l (j:Int):=fun j h=>uJ h;unfold IM at hr
  rw [ht] at hr
  grind
 have hN:qI l→k < l.length→Au l k:=fun h hk=>h.2 k hk
 repeat' (first | contradiction | with_reducible refine aA (fun hq => ?_) (fun hq => ?_) | with_reducible refine ax (by first | omega | grind [bW]) ?_ | with_reducible refine aK ?_ | with_reducible refine cz ?_ | with_reducible refine dE ?_ | with_reducible refine dF ?_ | with_reducible refine dG ?_ | with_reducible refine aj ?_ | refine ig hf (fun r hr => ?_))
 all_goals (have hNk:Au l k↔(1≤(idx l (k:Int)).size∧(idx l (k:Int)).size≤32∧∀ j:Nat,j < k→idx l (j:Int)≠idx l (k:Int)):=Iff.rfl)
 all_goals grind [Nxt,qI,bW]
end Go.Proofs.YtfpeabnehpclnaaGreatT
namespace Go.Proofs.YtfpeabnehpclnaaGreatT
open Go Go.Proofs Go.Proofs.YtfpeabnehpclnaaGreatE
set_option linter.unusedVariables false
set_option linter.unusedSimpArgs false
def typ (k:Int):Int:=(k - 1) % 4 + 1
theorem yQ {k:Int} (h1:1≤k) (h2:k≤8):om k=some (typ k):=by
 have:k=1∨k=2∨k=3∨k=4∨k=5∨k=6∨k=7∨k=8:=by omega
 rcases this with h | h | h | h | h | h | h | h <;> subst h <;> decide
theorem Bl {k:Int} (h1:1≤k) (h2:k≤8):fI k=some (typ k):=by
 have:k=1∨k=2∨k=3∨k=4∨k=5∨k=6∨k=7∨k=8:=by omega
 rcases this with h | h | h | h | h | h | h | h <;> subst h <;> decide
structure Sim (g:bF) (b:aI) (n:Nat):Prop where
 keys:g.keys=b.keys
 types:g.types=b.types
 len:b.keys.length≤32
 tl:b.types.length=b.keys.length
 wl:b.wrote.length=b.keys.length
 il:b.incs.length=b.keys.length
 ll:b.last_.length=b.keys.length
 nd:∀ i j:Nat,i < b.keys.length→j < b.keys.length→idx b.keys (i:Int)=idx b.keys (j:Int)→i=j
 has:∀ s,ma g.at_ s=true↔∃ j:Nat,j < b.keys.length∧idx b.keys (j:Int)=s
 at_:∀ j:Nat,j < b.keys.length→mat g.at_ (idx b.keys (j:Int))=(j:Int)
 facts:∀ j:Nat,j < b.keys.length→∀ a,ma g.facts ⟨idx b.keys (j:Int),a⟩=true↔∃ m:Nat,m < (idx b.wrote (j:Int)).length∧idx (idx b.wrote (j:Int)) (m:Int)=a
 fout:∀ s a,ma g.facts ⟨s,a⟩=true→∃ j:Nat,j < b.keys.length∧idx b.keys (j:Int)=s
 wn:∀ j:Nat,j < b.keys.length→(idx b.wrote (j:Int)).length≤n
 incs:∀ j:Nat,j < b.keys.length→((mat g.incs (idx b.keys (j:Int))).length:Int)=idx b.incs (j:Int)
 i8:∀ j:Nat,j < b.keys.length→(mat g.incs (idx b.keys (j:Int))).length≤8
 iout:∀ s,(∀ j:Nat,j < b.keys.length→idx b.keys (j:Int)≠s)→mat g.incs s=[]
 last:∀ j:Nat,j < b.keys.length→((mat g.incs (idx b.keys (j:Int))).length=0→idx b.last_ (j:Int) = -1) ∧
  (0 < (mat g.incs (idx b.keys (j:Int))).length→idx b.last_ (j:Int)=idx (mat g.incs (idx b.keys (j:Int))) (((mat g.incs (idx b.keys (j:Int))).length - 1:Nat):Int))
theorem Sim.start:Sim ⟨[],[],[],[],[]⟩ ⟨[],[],[],[],[]⟩ 0:=by
 refine ⟨rfl,rfl,by simp,rfl,rfl,rfl,rfl,?_,?_,?_,?_,?_,?_,?_,?_,?_,?_⟩
 all_goals simp [Gu,MS]
 rfl
theorem Sim.mono {g:bF} {b:aI} {n m:Nat} (h:Sim g b n) (hm:n≤m):Sim g b m :=
 { h with wn:=fun j hj=>Nat.le_trans (h.wn j hj) hm }
theorem Sim.new {g:bF} {b:aI} {n:Nat} (h:Sim g b n) {s:ByteArray} {t:Int} (hn:∀ j:Nat,j < b.keys.length→idx b.keys (j:Int)≠s) (a1:b.keys.length < 32) :
  Sim ⟨g.keys++[s],iA g.at_ s (g.keys.length:Int),g.types++[t],g.facts,g.incs⟩ ⟨b.keys++[s],b.types++[t],b.wrote++[[]],b.incs++[0],b.last_++[-1]⟩ n:=by
 have hk:=h.keys;have hl:(b.keys++[s]).length=b.keys.length + 1:=by simp
 have k1:∀ j:Nat,j < b.keys.length→idx (b.keys++[s]) (j:Int)=idx b.keys (j:Int):=fun j hj=>jH hj;have k2:idx (b.keys++[s]) ((b.keys.length:Nat):Int)=s:=kz rfl;have w1:∀ j:Nat,j < b.keys.length→idx (b.wrote++[[]]) (j:Int)=idx b.wrote (j:Int):=fun j hj=>jH (by rw [h.wl]; exact hj);have w2:idx (b.wrote++[[]]) ((b.keys.length:Nat):Int)=[]:=kz h.wl.symm;have i1:∀ j:Nat,j < b.keys.length→idx (b.incs++[0]) (j:Int)=idx b.incs (j:Int):=fun j hj=>jH (by rw [h.il]; exact hj);have i2:idx (b.incs++[0]) ((b.keys.length:Nat):Int)=0:=kz h.il.symm;have l1:∀ j:Nat,j < b.keys.length→idx (b.last_++[-1]) (j:Int)=idx b.last_ (j:Int):=fun j hj=>jH (by rw [h.ll]; exact hj);have l2:idx (b.last_++[-1]) ((b.keys.length:Nat):Int) = -1:=kz h.ll.symm;have a0:=h.iout s hn;have cut:∀ j:Nat,j < b.keys.length + 1→j < b.keys.length∨j=b.keys.length:=by omega
 refine ⟨by simp [hk],by simp [h.types],by simp; omega,by simp [h.tl],by simp [h.wl],by simp [h.il],by simp [h.ll],?_,?_,?_,?_,?_,?_,?_,?_,?_,?_⟩
 ·intro i j hi hj he
  dsimp only at hi hj he
  rw [hl] at hi hj
  have:=h.nd i j;rcases cut i hi with hi' | hi' <;> rcases cut j hj with hj' | hj' <;> grind
 ·intro x
  dsimp only
  rw [yX,hl,h.has]
  constructor
  ·rintro (rfl | ⟨j,hj,he⟩)
   ·exact ⟨_,Nat.lt_succ_self _,k2⟩
   ·exact ⟨j,by omega,(k1 j hj).trans he⟩
  ·rintro ⟨j,hj,he⟩;rcases cut j hj with hj' | hj'
   ·exact .inr ⟨j,hj',(k1 j hj') ▸ he⟩
   ·subst hj'; exact .inl (k2.symm.trans he).symm
 ·intro j hj
  dsimp only at hj ⊢
  rw [hl] at hj
  rw [rV,hk]
  rcases cut j hj with hj' | hj'
  ·rw [k1 j hj',if_neg (hn j hj')]; exact h.at_ j hj'
  ·subst hj'; rw [k2,if_pos rfl]
 ·intro j hj a
  dsimp only at hj ⊢
  rw [hl] at hj
  rcases cut j hj with hj' | hj'
  ·rw [k1 j hj',w1 j hj']; exact h.facts j hj' a
  ·subst hj'
   rw [k2,w2]
   constructor
   ·intro hh;obtain ⟨i,hi,he⟩:=h.fout s a hh;exact absurd he (hn i hi)
   ·rintro ⟨m,hm,_⟩; simp at hm
 ·intro x a hh;obtain ⟨i,hi,he⟩:=h.fout x a hh;exact ⟨i,by simp; omega,(k1 i hi).trans he⟩
 ·intro j hj
  dsimp only at hj ⊢
  rw [hl] at hj
  rcases cut j hj with hj' | hj'
  ·rw [w1 j hj']; exact h.wn j hj'
  ·subst hj'; rw [w2]; simp
 ·intro j hj
  dsimp only at hj ⊢
  rw [hl] at hj
  rcases cut j hj with hj' | hj'
  ·rw [k1 j hj',i1 j hj']; exact h.incs j hj'
  ·subst hj'; rw [k2,i2,a0]; rfl
 ·intro j hj
  dsimp only at hj ⊢
  rw [hl] at hj
  rcases cut j hj with hj' | hj'
  ·rw [k1 j hj']; exact h.i8 j hj'
  ·subst hj'; rw [k2,a0]; simp
 ·intro x hx
  dsimp only at hx ⊢
  rw [hl] at hx
  exact h.iout x (fun j hj=>by rw [← k1 j hj]; exact hx j (by omega))
 ·intro j hj
  dsimp only at hj ⊢
  rw [hl] at hj
  rcases cut j hj with hj' | hj'
  ·rw [k1 j hj',l1 j hj']; exact h.last j hj'
  ·subst hj'; rw [k2,l2,a0]; simp
theorem Sim.write {g:bF} {b:aI} {n k:Nat} (h:Sim g b n) {s:ByteArray} {a:Int} (hk:k < b.keys.length) (hs:idx b.keys (k:Int)=s) :
  Sim ⟨g.keys,g.at_,g.types,iA g.facts ⟨s,a⟩ (),g.incs⟩ ⟨b.keys,b.types,b.wrote.set k (idx b.wrote (k:Int)++[a]),b.incs,b.last_⟩ (n + 1):=by
 have w1:∀ j:Nat,idx (b.wrote.set k (idx b.wrote (k:Int)++[a])) (j:Int)=if j=k then idx b.wrote (k:Int)++[a] else idx b.wrote (j:Int):=fun j=>oU (by rw [h.wl]; exact hk);refine ⟨h.keys,h.types,h.len,h.tl,by simp [h.wl],h.il,h.ll,h.nd,h.has,h.at_,?_,?_,?_,h.incs,h.i8,h.iout,h.last⟩
 ·intro j hj x
  dsimp only at hj ⊢
  rw [yX,w1 j,h.facts j hj]
  by_cases e:j=k
  ·subst e
   rw [if_pos rfl,hs]
   constructor
   ·rintro (he | ⟨m,hm,he⟩)
    ·have:x=a:=by injection he
     subst this;exact ⟨_,by simp,kz rfl⟩
    ·exact ⟨m,by simp; omega,(jH hm).trans he⟩
   ·rintro ⟨m,hm,he⟩;rcases Nat.lt_or_ge m (idx b.wrote (j:Int)).length with h1 | h1
    ·exact .inr ⟨m,h1,(jH h1).symm.trans he⟩
    ·simp at hm
     rw [kz (by omega)] at he
     rw [he]; exact .inl rfl
  ·rw [if_neg e]
   constructor
   ·rintro (he | hh)
    ·injection he with h1 h2
     exact absurd (h.nd j k hj hk (h1.trans hs.symm)) e
    ·exact hh
   ·exact .inr
 ·intro x y hh
  dsimp only at hh ⊢
  rcases yX.1 hh with he | hh
  ·injection he with h1 h2
   exact ⟨k,hk,hs.trans h1.symm⟩
  ·exact h.fout x y hh
 ·intro j hj
  dsimp only at hj ⊢
  rw [w1 j]
  have:=h.wn j hj
  split
  ·rename_i e; subst e; simp; omega
  ·omega
theorem Sim.inc {g:bF} {b:aI} {n k:Nat} (h:Sim g b n) {s:ByteArray} {a:Int} (hk:k < b.keys.length) (hs:idx b.keys (k:Int)=s) (h8:(mat g.incs s).length < 8) :
  Sim ⟨g.keys,g.at_,g.types,g.facts,iA g.incs s (mat g.incs s++[a])⟩ ⟨b.keys,b.types,b.wrote,b.incs.set k (idx b.incs (k:Int) + 1),b.last_.set k a⟩ n:=by
 have i1:∀ j:Nat,idx (b.incs.set k (idx b.incs (k:Int) + 1)) (j:Int)=if j=k then idx b.incs (k:Int) + 1 else idx b.incs (j:Int):=fun j=>oU (by rw [h.il]; exact hk);have l1:∀ j:Nat,idx (b.last_.set k a) (j:Int)=if j=k then a else idx b.last_ (j:Int):=fun j=>oU (by rw [h.ll]; exact hk);have hne:∀ j:Nat,j < b.keys.length→j≠k→idx b.keys (j:Int)≠s:=fun j hj e he=>e (h.nd j k hj hk (he.trans hs.symm));refine ⟨h.keys,h.types,h.len,h.tl,h.wl,by simp [h.il],by simp [h.ll],h.nd,h.has,h.at_,h.facts,h.fout,h.wn,?_,?_,?_,?_⟩
 ·intro j hj
  dsimp only at hj ⊢
  rw [rV,i1 j]
  by_cases e:j=k
  ·subst e
   rw [if_pos hs,if_pos rfl,← h.incs j hj,hs]; simp
  ·rw [if_neg (hne j hj e),if_neg e]; exact h.incs j hj
 ·intro j hj
  dsimp only at hj ⊢
  rw [rV]
  by_cases e:j=k
  ·subst e
   rw [if_pos hs]; simp; omega
  ·rw [if_neg (hne j hj e)]; exact h.i8 j hj
 ·intro x hx
  dsimp only at hx ⊢
  rw [rV,if_neg (fun e=>hx k hk (hs.trans e.symm))]
  exact h.iout x hx
 ·intro j hj
  dsimp only at hj ⊢
  rw [rV,l1 j]
  by_cases e:j=k
  ·subst e
   rw [if_pos hs,if_pos rfl]
   refine ⟨fun h0=>by simp at h0,fun _ => ?_⟩
   rw [kz (by simp)]
  ·rw [if_neg (hne j hj e),if_neg e]; exact h.last j hj
theorem Hr {c:Call} {who:Int} {a4:List ByteArray} {a2:List Int} {a0:List (List Int)} {a3 a1:List Int} {k:Nat} {Q:Int×aI→Prop} (hk:k < a0.length) (hb:(idx a0 (k:Int)).length≤4096)
  (h1:(∃ m:Nat,m < (idx a0 (k:Int)).length∧idx (idx a0 (k:Int)) (m:Int)=c.Arg)→Q (3,⟨a4,a2,a0,a3,a1⟩))
  (h2:(¬ ∃ m:Nat,m < (idx a0 (k:Int)).length∧idx (idx a0 (k:Int)) (m:Int)=c.Arg)→Tri (fu c who a4 a2 a3 a1 (k:Int) (a0.set k (idx a0 (k:Int)++[c.Arg]))) Q) :
  Tri (iter (iE c who a4 a2 a0 a3 a1 (k:Int)) 0) Q:=by
 refine qP (idx a0 (k:Int)).length (fun m=>idx (idx a0 (k:Int)) (m:Int)≠c.Arg) ?_;intro m hm hJ;unfold iE
 dsimp only
 rw [Int.toNat_natCast]
 repeat' (first | contradiction | with_reducible refine aA (fun hq => ?_) (fun hq => ?_) | with_reducible refine ax (by first | omega | grind [bW]) ?_ | with_reducible refine aK ?_ | with_reducible refine cz ?_ | with_reducible refine dE ?_ | with_reducible refine dF ?_ | with_reducible refine dG ?_ | with_reducible refine aj ?_)
 ·exact h1 ⟨m,by omega,by assumption⟩
 ·grind [Nxt,bW]
 ·exact h2 (by grind)
def Both (r:Int×bF) (n:Nat) (r':Int×aI):Prop:=r.1=r'.1∧(r.1=0→Sim r.2 r'.2 n)
def Ht (b:aI) (c:Call) (who:Int) (k:Nat) (r:Int×aI):Prop :=
 (idx b.types (k:Int)≠typ c.Kind∧r=(50,b)) ∨
 (idx b.types (k:Int)=typ c.Kind∧(c.Kind=2∨c.Kind=3)∧(∃ m:Nat,m < (idx b.wrote (k:Int)).length∧idx (idx b.wrote (k:Int)) (m:Int)=c.Arg)∧r=(3,b)) ∨
 (idx b.types (k:Int)=typ c.Kind∧(c.Kind=2∨c.Kind=3)∧(¬ ∃ m:Nat,m < (idx b.wrote (k:Int)).length∧idx (idx b.wrote (k:Int)) (m:Int)=c.Arg) ∧
  r=(0,⟨b.keys,b.types,b.wrote.set k (idx b.wrote (k:Int)++[c.Arg]),b.incs,b.last_⟩)) ∨
 (idx b.types (k:Int)=typ c.Kind∧c.Kind=4∧idx b.last_ (k:Int)≠who∧idx b.incs (k:Int) + 1 > 8∧r.1=51) ∨
 (idx b.types (k:Int)=typ c.Kind∧c.Kind=4∧idx b.last_ (k:Int)≠who∧idx b.incs (k:Int) + 1≤8 ∧
  r=(0,⟨b.keys,b.types,b.wrote,b.incs.set k (idx b.incs (k:Int) + 1),b.last_.set k who⟩)) ∨
 (idx b.types (k:Int)=typ c.Kind∧c.Kind=4∧idx b.last_ (k:Int)=who∧r=(0,b)) ∨
 (idx b.types (k:Int)=typ c.Kind∧c.Kind≠2∧c.Kind≠3∧c.Kind≠4∧r=(0,b))
theorem Fb {b:aI} {k:Nat} {c:Call} {who:Int} (hk:k < b.keys.length) (t1:b.types.length=b.keys.length) (t2:b.wrote.length=b.keys.length) (t3:b.incs.length=b.keys.length)
  (t4:b.last_.length=b.keys.length) (hwr:(idx b.wrote (k:Int)).length≤4096) (hin:0≤idx b.incs (k:Int)∧idx b.incs (k:Int)≤8)
  (h1:1≤c.Kind) (h8:c.Kind≤8):Tri (dY c who b.keys b.types b.wrote b.incs b.last_ (k:Int)) (Ht b c who k):=by
 have e1:w64 (idx b.incs (k:Int) + 1)=idx b.incs (k:Int) + 1:=bW (by omega) (by omega);have e2:idx (b.incs.set k (idx b.incs (k:Int) + 1)) (k:Int)=idx b.incs (k:Int) + 1:=by rw [oU (by omega),if_pos rfl]
 unfold dY iF fu fZ fV
 simp only [cond_true,cond_false,Bl h1 h8,Int.toNat_natCast,e1,e2]
 repeat' (first | contradiction | with_reducible refine aA (fun hq => ?_) (fun hq => ?_) | with_reducible refine ax (by first | omega | grind [bW]) ?_ | with_reducible refine aK ?_ | with_reducible refine cz ?_ | with_reducible refine dE ?_ | with_reducible refine dF ?_ | with_reducible refine dG ?_ | with_reducible refine aj ?_ | refine Hr (by omega) hwr (fun h => ?_) (fun h => ?_))
 all_goals try unfold fu fZ fV
 all_goals try simp only [cond_true,cond_false,Int.toNat_natCast,e1,e2]
 repeat' (first | contradiction | with_reducible refine aA (fun hq => ?_) (fun hq => ?_) | with_reducible refine ax (by first | omega | grind [bW]) ?_ | with_reducible refine aK ?_ | with_reducible refine cz ?_ | with_reducible refine dE ?_ | with_reducible refine dF ?_ | with_reducible refine dG ?_ | with_reducible refine aj ?_)
 all_goals grind [Ht]
theorem enter_at {g:bF} {b:aI} {n k:Nat} {a0:bF} {c:Call} {who:Int} (h:Sim g b n) (hf:a0.facts=g.facts) (hi:a0.incs=g.incs) (hk:k < b.keys.length) (hs:idx b.keys (k:Int)=c.Key)
  (h1:1≤c.Kind) (h8:c.Kind≤8) (hw:0≤who) (hn:n≤2048) :
  Tri (iK a0 c who g.keys g.at_ g.types (k:Int)) (fun r=>Tri (dY c who b.keys b.types b.wrote b.incs b.last_ (k:Int)) (Both r (n + 1))):=by
 obtain ⟨gk,ga,gt,gf,gi⟩:=g
 dsimp only at hf hi
 have htl:=h.types;have hkk:=h.keys
 dsimp only at htl hkk ⊢
 subst htl hkk;have t1:=h.tl;have t2:=h.wl;have t3:=h.il;have t4:=h.ll;have hfa:=h.facts k hk c.Arg;have hin:=h.incs k hk;have a1:=h.i8 k hk;have hla:=h.last k hk;have hwr:=h.wn k hk
 rw [hs] at hfa hin a1 hla
 dsimp only at hfa hin a1 hla
 obtain ⟨r',hr',spec⟩:=Fb (who:=who) hk t1 t2 t3 t4 (by omega) (by omega) h1 h8;have s0:=h.mono (Nat.le_succ n);have s1:=h.write (a:=c.Arg) hk hs;have s2:(mat gi c.Key).length < 8→_:=fun hl=>(h.inc (a:=who) hk hs hl).mono (Nat.le_succ n)
 dsimp only at s1 s2
 have e3:0 < (mat gi c.Key).length→w64 (((mat gi c.Key).length:Int) - 1)=(((mat gi c.Key).length - 1:Nat):Int):=fun h=>qH (by omega) (by omega);have m1:mat (iA gi c.Key (mat gi c.Key++[who])) c.Key=mat gi c.Key++[who]:=by rw [rV,if_pos rfl]
 unfold iK jR mW jQ jP iJ
 simp only [cond_true,cond_false,yQ h1 h8,hf,hi,m1]
 repeat' (first | contradiction | with_reducible refine aA (fun hq => ?_) (fun hq => ?_) | with_reducible refine ax (by first | omega | grind [bW]) ?_ | with_reducible refine aK ?_ | with_reducible refine cz ?_ | with_reducible refine dE ?_ | with_reducible refine dF ?_ | with_reducible refine dG ?_ | with_reducible refine aj ?_)
 all_goals refine ⟨r',hr',?_⟩
 all_goals unfold Ht at spec
 all_goals simp only [Both]
 all_goals grind
theorem Hu {g:bF} {b:aI} {n:Nat} {c:Call} {who:Int} (h:Sim g b n) (h1:1≤c.Kind) (h8:c.Kind≤8) (hw:0≤who) (hn:n≤2048) :
  Tri (aC g c who) (fun r=>Tri (ag b c who) (Both r (n + 1))):=by
 have hl:=h.len;have t1:=h.tl;have t2:=h.wl;have t3:=h.il;have t4:=h.ll;have hk:=h.keys;have ht:=h.types;obtain ⟨r0,a3,hf⟩:=Cb (l:=b.keys) (s:=c.Key) (by omega);rcases hf with ⟨rfl,hno⟩ | ⟨k,rfl,a1,a2,_⟩
 ·have hm:¬ ma g.at_ c.Key=true:=fun hh=>by
   obtain ⟨j,hj,he⟩:=(h.has c.Key).1 hh;exact hno j hj he
  unfold aC ag mX
  simp only [a3,yQ h1 h8,hk,ht]
  refine aA (fun _ => ?_) (fun hh=>absurd hm hh);refine aA (fun a4 => ?_) (fun a4 => ?_)
  ·refine aj (cz ?_)
   repeat' (first | contradiction | with_reducible refine aA (fun hq => ?_) (fun hq => ?_) | with_reducible refine ax (by first | omega | grind [bW]) ?_ | with_reducible refine aK ?_ | with_reducible refine cz ?_ | with_reducible refine dE ?_ | with_reducible refine dF ?_ | with_reducible refine dG ?_ | with_reducible refine aj ?_)
   ·exact ⟨rfl,fun h=>by cases h⟩
   ·omega
  ·have hS:=h.new (s:=c.Key) (t:=typ c.Kind) hno (by omega)
   rw [hk,ht] at hS
   have he:=enter_at (a0:=g) (who:=who) hS rfl rfl (k:=b.keys.length) (by simp) (kz rfl) h1 h8 hw hn
   dsimp only at he
   refine ax (by omega) (cz (ax (by omega) ?_));refine fq he (fun r hr => ?_);unfold iH iG
   simp only [Bl h1 h8]
   repeat' (first | contradiction | with_reducible refine aA (fun hq => ?_) (fun hq => ?_) | with_reducible refine ax (by first | omega | grind [bW]) ?_ | with_reducible refine aK ?_ | with_reducible refine cz ?_ | with_reducible refine dE ?_ | with_reducible refine dF ?_ | with_reducible refine dG ?_ | with_reducible refine aj ?_ | exact hr)
   omega
 ·have hm:ma g.at_ c.Key=true:=(h.has c.Key).2 ⟨k,a1,a2⟩;have hat:mat g.at_ c.Key=(k:Int):=by rw [← a2]; exact h.at_ k a1
  have he:=enter_at (a0:=g) (who:=who) h rfl rfl a1 a2 h1 h8 hw hn;unfold aC ag
  simp only [a3,hat]
  refine aA (fun hh=>absurd hm hh) (fun _ => ?_);refine fq he (fun r hr=>cz ?_)
  repeat' (first | contradiction | with_reducible refine aA (fun hq => ?_) (fun hq => ?_) | with_reducible refine ax (by first | omega | grind [bW]) ?_ | with_reducible refine aK ?_ | with_reducible refine cz ?_ | with_reducible refine dE ?_ | with_reducible refine dF ?_ | with_reducible refine dG ?_ | with_reducible refine aj ?_ | exact hr)
abbrev GS:=List ByteArray×(List (ByteArray×Int))×List Int×(List (di×Unit))×(List (ByteArray×(List Int)))×Int
abbrev BS:=List ByteArray×List Int×(List (List Int))×List Int×List Int×Int
def Ga (g:bF) (x:Int):GS:=(g.keys,g.at_,g.types,g.facts,g.incs,x)
def Bn (b:aI) (x:Int):BS:=(b.keys,b.types,b.wrote,b.incs,b.last_,x)
def Go1 (i n:Nat):GS ⊕ (Int ⊕ Int)→(List Call×Int) ⊕ (BS ⊕ Int)→Prop
 | .inl s,.inr (.inl t)=>∃ g b,s=Ga g ((i + 1:Nat):Int)∧t=Bn b ((i + 1:Nat):Int)∧Sim g b n
 | .inr (.inr a),.inr (.inr b)=>a=1∧b=1
 | _,_=>False
theorem enters {g:bF} {b:aI} {n i:Nat} {l:List Call} {y:Event×Bool} (h:Sim g b n) (hy:y.1.Calls=l) (hl:l.length≤16) (hi:i < 64) (hn:n≤1024) (hc:uV l (fun c=>1≤c.Kind∧c.Kind≤8)) :
  Tri (iter (pW (i:Int) y) (Ga g 0)) (fun x=>Tri (iter (fJ (i:Int) l) (Bn b 0)) (Go1 i (n + 16) x)):=by
 refine EJ l.length (fun k s t=>∃ g b,s=Ga g (k:Int)∧t=Bn b (k:Int)∧Sim g b (n + k)) (Nat.zero_le _) ⟨g,b,rfl,rfl,h⟩ ?_;rintro k s t hk ⟨g,b,rfl,rfl,hS⟩;unfold pW fJ Ga Bn
 dsimp only
 rw [hy]
 refine aA (fun h => ?_) (fun h => ?_)
 ·refine ax (by omega) ?_;obtain ⟨r,hr,r',hr',hb⟩:=Hu (who:=(i:Int)) hS (hc k (by omega)).1 (hc k (by omega)).2 (by omega) (by omega);refine dM hr ?_;have hw:w64 ((k:Int) + 1)=((k + 1:Nat):Int):=bN (by omega)
  rw [hw]
  repeat' (first | contradiction | with_reducible refine aA (fun hq => ?_) (fun hq => ?_) | with_reducible refine ax (by first | omega | grind [bW]) ?_ | with_reducible refine aK ?_ | with_reducible refine cz ?_ | with_reducible refine dE ?_ | with_reducible refine dF ?_ | with_reducible refine dG ?_ | with_reducible refine aj ?_ | refine dM hr' ?_)
  ·exact ⟨rfl,rfl⟩
  ·exact absurd (by rw [hb.1]; omega) ‹r.1≠0›
  ·exact absurd (by rw [← hb.1]; omega) ‹r'.1≠0›
  ·exact ⟨by omega,r.2,r'.2,rfl,rfl,hb.2 (by omega)⟩
 ·have hw:w64 ((i:Int) + 1)=((i + 1:Nat):Int):=bN (by omega)
  rw [hw]
  repeat' (first | contradiction | with_reducible refine aA (fun hq => ?_) (fun hq => ?_) | with_reducible refine ax (by first | omega | grind [bW]) ?_ | with_reducible refine aK ?_ | with_reducible refine cz ?_ | with_reducible refine dE ?_ | with_reducible refine dF ?_ | with_reducible refine dG ?_ | with_reducible refine aj ?_)
  exact ⟨g,b,rfl,rfl,hS.mono (by omega)⟩
theorem Fe {h:History} {i:Nat} {b:aI} {Q:BS ⊕ Int→Prop} (hi:i < h.Txns.length) (hs:Dt (idx h.Txns (i:Int))) (a1:(idx h.Txns (i:Int)).Ops.length≤16)
  (h1:¬ (xA h (idx h.Txns (i:Int))∧Ar (zS h (idx h.Txns (i:Int))))→Q (.inr 1))
  (h2:xA h (idx h.Txns (i:Int))→Ar (zS h (idx h.Txns (i:Int)))→Tri (iter (fJ (i:Int) (dI h (idx h.Txns (i:Int)))) (Bn b 0)) (fun x=>match x with | .inl _=>False | .inr y=>Q y)) :
  Tri (iter (fK h b.keys b.types b.wrote b.incs b.last_ (i:Int)) ([],0)) Q:=by
 generalize ht:idx h.Txns (i:Int)=t at hs a1 h1 h2;refine Bu t.Ops.length (fun k l=>l=(dI h t).take k∧∀ j:Nat,j < k→0≤(idx t.Ops (j:Int)).Key∧(idx t.Ops (j:Int)).Key < (h.Keys.length:Int)) ⟨rfl,by omega⟩ ?_
 rintro k l hk ⟨rfl,hJ⟩;have hlen:((dI h t).take k).length=k:=by simp [dI]; omega
 unfold fK kQ nV
 simp only [cond_true,cond_false,hlen,ht]
 have hsm:=CF (e:=⟨0,t.Status,(dI h t).take k⟩) (hs.small k);have hfull:k=t.Ops.length→(dI h t).take k=dI h t:=fun e=>List.take_of_length_le (by simp [dI]; omega);have hnext:k < t.Ops.length→(dI h t).take (k + 1)=(dI h t).take k++[yO h (idx t.Ops (k:Int))]:=fun hk=>by
  rw [lW (by simpa [dI] using hk),dI,zo hk]
 have hw:w64 ((k:Int) + 1)=((k + 1:Nat):Int):=bN (by omega)
 rw [hw]
 repeat' (first | contradiction | with_reducible refine aA (fun hq => ?_) (fun hq => ?_) | with_reducible refine ax (by first | omega | grind [bW]) ?_ | with_reducible refine aK ?_ | with_reducible refine cz ?_ | with_reducible refine dE ?_ | with_reducible refine dF ?_ | with_reducible refine dG ?_ | with_reducible refine aj ?_ | refine ig hsm (fun r hr => ?_))
 ·grind [Up2,xA,uV]
 ·grind [Up2,xA,uV]
 ·grind [Up2,yO]
 ·have a0:k=t.Ops.length:=by omega
  rw [hfull a0] at hr
  refine h1 (fun hh => ?_);have:=hr.1.2 hh.2
  contradiction
 ·have a0:k=t.Ops.length:=by omega
  rw [hfull a0] at hr ⊢
  have hK:xA _ t:=fun j hj=>hJ j (by omega);refine fq (h2 hK (hr.1.1 (by omega))) ?_;rintro (x | y) hxy
  ·exact hxy.elim
  ·exact hxy
def Bo (h:History) (i:Nat):Prop:=yP h.Txns i∧xA h (idx h.Txns (i:Int))∧Ar (zS h (idx h.Txns (i:Int)))
def wC (h:History):Prop:=h.Keys.length * 16≤140737488351232∧h.Txns.length * 56≤140737488351232∧uV h.Txns Dt
theorem Ju {h:History} (hs:wC h) (hN:qI h.Keys) (a7:h.Txns.length≤32) :
  Tri (iter (nO h) (Ga ⟨[],[],[],[],[]⟩ 0)) (fun x=>Tri (iter (jg h) (Bn ⟨[],[],[],[],[]⟩ 0)) (fun y=>(∃ v,x = .inr v∧v=y)∧(y=0∨y=1))):=by
 obtain ⟨a9,a8,a1⟩:=hs;refine EJ h.Txns.length (fun k s t=>∃ g b,s=Ga g (k:Int)∧t=Bn b (k:Int)∧Sim g b (k * 16)∧∀ j:Nat,j < k→Bo h j) (Nat.zero_le _) ⟨_,_,rfl,rfl,Sim.start,fun j hj=>absurd hj (Nat.not_lt_zero _)⟩ ?_;rintro k s t hk ⟨g,b,rfl,rfl,hS,hJ⟩;unfold nO pX jg jf Ga Bn
 simp only [cond_true,cond_false]
 refine aA (fun a6 => ?_) (fun a6 => ?_)
 ·have a0:k < h.Txns.length:=by omega
  obtain ⟨r,hr,a2,a5⟩:=Ca (h:=h) (a1 k a0);obtain ⟨p,hp,a4⟩:=Bj (l:=h.Txns) a0 (by omega);obtain ⟨p',hp',hp1'⟩:=xN (l:=h.Txns) a0 (by omega);have hco:Ar (zS h (idx h.Txns (k:Int)))→(idx h.Txns (k:Int)).Ops.length≤16:=fun he=>by
   have:=he.2.2.1
   simpa [zS,dI] using this
  refine ax (by omega) (dM hr ?_)
  by_cases hok:Bo h k
  ·have e1:r.2=true:=a2.2 ⟨hok.2.1,hok.2.2⟩;have e2:p=true:=a4.2 hok.1;have e3:p'=true:=hp1'.2 hok.1;have hc:uV (dI h (idx h.Txns (k:Int))) (fun c=>1≤c.Kind∧c.Kind≤8):=fun j hj=>⟨(hok.2.2.2.2.2 j hj).1,(hok.2.2.2.2.2 j hj).2.1⟩;obtain ⟨x,hx,y,hy,hxy⟩:=enters (y:=r) (i:=k) hS (congrArg Event.Calls (a5 e1)) hok.2.2.2.2.1 (by omega) (by omega) hc;refine aA (fun h=>absurd e1 h) (fun _ => ?_);refine ax (by omega) (dM hp ?_);refine aA (fun h=>absurd e2 h) (fun _ => ?_);refine ⟨x,hx,?_⟩
   repeat' (first | contradiction | with_reducible refine aA (fun hq => ?_) (fun hq => ?_) | with_reducible refine ax (by first | omega | grind [bW]) ?_ | with_reducible refine aK ?_ | with_reducible refine cz ?_ | with_reducible refine dE ?_ | with_reducible refine dF ?_ | with_reducible refine dG ?_ | with_reducible refine aj ?_ | refine dM hp' ?_)
   ·exact absurd (hco hok.2.2) (by omega)
   ·refine Fe a0 (a1 k a0) (hco hok.2.2) (fun hn=>absurd ⟨hok.2.1,hok.2.2⟩ hn) (fun _ _=>⟨y,hy,?_⟩);rcases x with s | a | a <;> rcases y with t | t | t
    ·exact hxy.elim
    ·obtain ⟨g',b',rfl,rfl,hS'⟩:=hxy;refine ⟨by omega,g',b',rfl,rfl,(show k * 16 + 16=(k + 1) * 16 by omega) ▸ hS',fun j hj => ?_⟩
     rcases Nat.lt_or_ge j k with h1 | h1
     ·exact hJ j h1
     ·rw [show j=k by omega]; exact hok
    ·exact hxy.elim
    ·exact hxy.elim
    ·exact hxy.elim
    ·exact hxy.elim
    ·exact hxy.elim
    ·exact hxy.elim
    ·obtain ⟨rfl,rfl⟩:=hxy;exact ⟨⟨1,rfl,rfl⟩,.inr rfl⟩
  ·have h1:Tri (iter (fK h b.keys b.types b.wrote b.incs b.last_ (k:Int)) ([],0)) (fun y=>p'=true→(idx h.Txns (k:Int)).Ops.length≤16→y = .inr 1) ∨ ¬ ((idx h.Txns (k:Int)).Ops.length≤16) ∨ ¬ p'=true:=by
    by_cases a3:(idx h.Txns (k:Int)).Ops.length≤16
    ·by_cases h3:p'=true
     ·refine .inl (Fe a0 (a1 k a0) a3 (fun _ _ _=>rfl) (fun q1 q2=>absurd ⟨hp1'.1 h3,q1,q2⟩ hok))
     ·exact .inr (.inr h3)
    ·exact .inr (.inl a3)
   have hend:Tri (aO h.Txns (k:Int)) (fun y=>Tri (bif !y then (out (some 1):Option (BS ⊕ Int)) else bif decide ((((idx h.Txns (k:Int)).Ops).length:Int) > 16) then out (some 1) else iter (fK h b.keys b.types b.wrote b.incs b.last_ (k:Int)) ([],0)) (fun y=>y = .inr 1)):=by
    refine ⟨p',hp',?_⟩
    repeat' (first | contradiction | with_reducible refine aA (fun hq => ?_) (fun hq => ?_) | with_reducible refine ax (by first | omega | grind [bW]) ?_ | with_reducible refine aK ?_ | with_reducible refine cz ?_ | with_reducible refine dE ?_ | with_reducible refine dF ?_ | with_reducible refine dG ?_ | with_reducible refine aj ?_)
    ·rfl
    ·rfl
    ·rcases h1 with h1 | h1 | h1
     ·exact fq h1 (fun y hy=>hy (Decidable.of_not_not ‹¬¬p'=true›) (by omega))
     ·omega
     ·contradiction
   have hend2:∀ {Q:BS ⊕ Int→Prop},Q (.inr 1)→Tri ((aO h.Txns (k:Int)).bind fun y=>bif !y then (out (some 1):Option (BS ⊕ Int)) else bif decide ((((idx h.Txns (k:Int)).Ops).length:Int) > 16) then out (some 1) else iter (fK h b.keys b.types b.wrote b.incs b.last_ (k:Int)) ([],0)) Q:=by
    intro Q hQ;refine ig hend (fun y hy=>fq hy ?_);rintro _ rfl;exact hQ
   repeat' (first | contradiction | with_reducible refine aA (fun hq => ?_) (fun hq => ?_) | with_reducible refine ax (by first | omega | grind [bW]) ?_ | with_reducible refine aK ?_ | with_reducible refine cz ?_ | with_reducible refine dE ?_ | with_reducible refine dF ?_ | with_reducible refine dG ?_ | with_reducible refine aj ?_ | refine dM hp ?_)
   ·refine hend2 ?_;exact ⟨⟨1,rfl,rfl⟩,.inr rfl⟩
   ·refine hend2 ?_;exact ⟨⟨1,rfl,rfl⟩,.inr rfl⟩
   ·exact absurd ⟨a4.1 (by grind),a2.1 (by grind)⟩ hok
 ·repeat' (first | contradiction | with_reducible refine aA (fun hq => ?_) (fun hq => ?_) | with_reducible refine ax (by first | omega | grind [bW]) ?_ | with_reducible refine aK ?_ | with_reducible refine cz ?_ | with_reducible refine dE ?_ | with_reducible refine dF ?_ | with_reducible refine dG ?_ | with_reducible refine aj ?_)
  exact ⟨⟨0,rfl,rfl⟩,.inl rfl⟩
theorem Cc {h:History} (hs:wC h):Tri (aZ h) (fun v=>Tri (av h) (fun v'=>v=v'∧(v=0∨v=1))):=by
 obtain ⟨a3,a1,a4⟩:=hs;obtain ⟨y,hy,hn⟩:=Du (l:=h.Keys) (by omega);have hT:=fun hN a0=>Ju (h:=h) ⟨a3,a1,a4⟩ hN a0;have hfail:¬ (qI h.Keys∧h.Txns.length≤32)→av h=some 1:=by
  intro hno;refine gI.1 ?_;unfold av gP
  simp only [cond_true,cond_false]
  repeat' (first | contradiction | with_reducible refine aA (fun hq => ?_) (fun hq => ?_) | with_reducible refine ax (by first | omega | grind [bW]) ?_ | with_reducible refine aK ?_ | with_reducible refine cz ?_ | with_reducible refine dE ?_ | with_reducible refine dF ?_ | with_reducible refine dG ?_ | with_reducible refine aj ?_ | refine dM hy ?_)
  ·rfl
  ·rfl
  ·exact absurd ⟨hn.1 (Decidable.of_not_not ‹¬¬y=true›),by omega⟩ hno
 have hgood:qI h.Keys→h.Txns.length≤32→Tri (iter (nO h) (Ga ⟨[],[],[],[],[]⟩ 0)) (fun x=>Tri (av h) (fun v'=>x = .inr v'∧(v'=0∨v'=1))):=by
  intro hN a0;refine fq (hT hN a0) (fun x hx => ?_);unfold av gP
  simp only [cond_true,cond_false]
  have:=hn.2 hN
  repeat' (first | contradiction | with_reducible refine aA (fun hq => ?_) (fun hq => ?_) | with_reducible refine ax (by first | omega | grind [bW]) ?_ | with_reducible refine aK ?_ | with_reducible refine cz ?_ | with_reducible refine dE ?_ | with_reducible refine dF ?_ | with_reducible refine dG ?_ | with_reducible refine aj ?_ | refine dM hy ?_)
  ·omega
  ·refine fq hx (fun v hv => ?_);obtain ⟨⟨v2,rfl,rfl⟩,h2⟩:=hv;exact ⟨rfl,h2⟩
 have hbad:¬ (qI h.Keys∧h.Txns.length≤32)→Tri (av h) (fun v'=>(1:Int)=v'∧((1:Int)=0∨(1:Int)=1)):=fun hno=>⟨1,hfail hno,rfl,.inr rfl⟩;unfold aZ pY
 simp only [cond_true,cond_false]
 repeat' (first | contradiction | with_reducible refine aA (fun hq => ?_) (fun hq => ?_) | with_reducible refine ax (by first | omega | grind [bW]) ?_ | with_reducible refine aK ?_ | with_reducible refine cz ?_ | with_reducible refine dE ?_ | with_reducible refine dF ?_ | with_reducible refine dG ?_ | with_reducible refine aj ?_)
 ·exact hbad (fun hh=>by have:=hh.1.1; omega)
 ·exact hbad (fun hh=>by have:=hh.2; omega)
 ·refine qP h.Keys.length (Au h.Keys) ?_;intro k hk hJ;unfold ug nN
  simp only [cond_true,cond_false]
  have hf:k < h.Keys.length→Tri (slices_Contains_string (eD h.Keys 0 (k:Int)) (idx h.Keys (k:Int))) (fun r=>r=true↔∃ j:Nat,j < k∧idx h.Keys (j:Int)=idx h.Keys (k:Int)):=by
   intro hk'
   rw [rM (by omega)]
   refine fq (El (by simp; omega)) (fun r hr => ?_);have ht:(h.Keys.take k).length=k:=by simp; omega
   have hx:∀ j:Nat,j < k→idx (h.Keys.take k) (j:Int)=idx h.Keys (j:Int):=fun j h=>uJ h
   rw [ht] at hr
   grind
  have he:=EC (k:=idx h.Keys (k:Int));have hw:w64 ((k:Int) + 1)=((k + 1:Nat):Int):=bN (by omega)
  rw [hw]
  have hNk:Au h.Keys k↔(1≤(idx h.Keys (k:Int)).size∧(idx h.Keys (k:Int)).size≤32∧∀ j:Nat,j < k→idx h.Keys (j:Int)≠idx h.Keys (k:Int)):=Iff.rfl;have hno:k < h.Keys.length → ¬ Au h.Keys k → ¬ (qI h.Keys∧h.Txns.length≤32):=fun h1 h2 h3=>h2 (h3.1.2 k h1);refine aA (fun a2 => ?_) (fun a2 => ?_)
  ·refine ax (by omega) ?_
   repeat' (first | contradiction | with_reducible refine aA (fun hq => ?_) (fun hq => ?_) | with_reducible refine ax (by first | omega | grind [bW]) ?_ | with_reducible refine aK ?_ | with_reducible refine cz ?_ | with_reducible refine dE ?_ | with_reducible refine dF ?_ | with_reducible refine dG ?_ | with_reducible refine aj ?_ | refine ig (hf (by omega)) (fun r hr => ?_))
   ·exact hbad (hno (by omega) (by grind))
   ·exact hbad (hno (by omega) (by grind))
   ·exact hbad (hno (by omega) (by grind))
   ·exact ⟨rfl,by omega,by grind⟩
  ·have hN:qI h.Keys:=⟨by omega,fun i hi=>hJ i (by omega)⟩
   unfold oW;refine cz ?_;obtain ⟨x,hx,v,hv,hq⟩:=hgood hN (by omega);obtain ⟨rfl,h2⟩:=hq;exact ⟨_,hx,v,hv,rfl,h2⟩
end Go.Proofs.YtfpeabnehpclnaaGreatT
namespace Go.Proofs.YtfpeabnehpclnaaGreatT
open Go Go.Proofs Go.Proofs.YtfpeabnehpclnaaGreatE
set_option linter.unusedVariables false
set_option linter.unusedSimpArgs false
def qJ (l:List Int) (c:Call) (w:Int) (s:ByteArray):List Int:=if c.Kind=4∧c.Key=s∧(l.length=0∨idx l ((l.length - 1:Nat):Int)≠w) then l++[w] else l
def mH (E:List (Call×Int)) (s:ByteArray):List Int:=E.foldl (fun l e=>qJ l e.1 e.2 s) []
theorem Ce {E:List (Call×Int)} {c:Call} {w:Int} {s:ByteArray}:mH (E++[(c,w)]) s=qJ (mH E s) c w s:=by
 unfold mH; rw [List.foldl_append]; rfl
theorem uG {l:List Int} {c:Call} {w:Int} {s:ByteArray} (h:¬ (c.Kind=4∧c.Key=s)):qJ l c w s=l:=by
 unfold qJ; rw [if_neg (fun hh=>h ⟨hh.1,hh.2.1⟩)]
def KV (E:List (Call×Int)) (c:Call) (w:Int):Prop :=
 ((c.Kind=2∨c.Kind=3)→∀ e ∈ E,e.1.Key=c.Key→(e.1.Kind=2∨e.1.Kind=3)→e.1.Arg≠c.Arg)∧(c.Kind=4→(qJ (mH E c.Key) c w c.Key).length≤8)
def IP (E:List (Call×Int)) (c:Call) (w:Int):Prop:=(∀ e ∈ E,e.1.Key=c.Key→typ e.1.Kind=typ c.Kind)∧KV E c w
structure BookInv0 (E:List (Call×Int)) (b:aI):Prop where
 tl:b.types.length=b.keys.length
 wl:b.wrote.length=b.keys.length
 il:b.incs.length=b.keys.length
 ll:b.last_.length=b.keys.length
 nd:∀ i j:Nat,i < b.keys.length→j < b.keys.length→idx b.keys (i:Int)=idx b.keys (j:Int)→i=j
 ks:∀ e ∈ E,∃ j:Nat,j < b.keys.length∧idx b.keys (j:Int)=e.1.Key
 ty:∀ e ∈ E,∀ j:Nat,j < b.keys.length→idx b.keys (j:Int)=e.1.Key→idx b.types (j:Int)=typ e.1.Kind
 wr:∀ j:Nat,j < b.keys.length→∀ a,(∃ m:Nat,m < (idx b.wrote (j:Int)).length∧idx (idx b.wrote (j:Int)) (m:Int)=a)↔∃ e ∈ E,e.1.Key=idx b.keys (j:Int)∧(e.1.Kind=2∨e.1.Kind=3)∧e.1.Arg=a
 wn:∀ j:Nat,j < b.keys.length→(idx b.wrote (j:Int)).length≤E.length
 ic:∀ j:Nat,j < b.keys.length→idx b.incs (j:Int)=((mH E (idx b.keys (j:Int))).length:Int)
 i8:∀ j:Nat,j < b.keys.length→(mH E (idx b.keys (j:Int))).length≤8
 io:∀ s,(∀ j:Nat,j < b.keys.length→idx b.keys (j:Int)≠s)→mH E s=[]
 la:∀ j:Nat,j < b.keys.length→((mH E (idx b.keys (j:Int))).length=0→idx b.last_ (j:Int) = -1) ∧
  (0 < (mH E (idx b.keys (j:Int))).length→idx b.last_ (j:Int)=idx (mH E (idx b.keys (j:Int))) (((mH E (idx b.keys (j:Int))).length - 1:Nat):Int))
theorem BookInv0.start:BookInv0 [] ⟨[],[],[],[],[]⟩:=by
 refine ⟨rfl,rfl,rfl,rfl,?_,?_,?_,?_,?_,?_,?_,?_,?_⟩
 all_goals simp [mH]
theorem BookInv0.new {E:List (Call×Int)} {b:aI} (h:BookInv0 E b) {s:ByteArray} {t:Int} (hn:∀ j:Nat,j < b.keys.length→idx b.keys (j:Int)≠s) :
  BookInv0 E ⟨b.keys++[s],b.types++[t],b.wrote++[[]],b.incs++[0],b.last_++[-1]⟩:=by
 have hl:(b.keys++[s]).length=b.keys.length + 1:=by simp
 have k1:∀ j:Nat,j < b.keys.length→idx (b.keys++[s]) (j:Int)=idx b.keys (j:Int):=fun j hj=>jH hj;have k2:idx (b.keys++[s]) ((b.keys.length:Nat):Int)=s:=kz rfl;have t1:∀ j:Nat,j < b.keys.length→idx (b.types++[t]) (j:Int)=idx b.types (j:Int):=fun j hj=>jH (by rw [h.tl]; exact hj);have w1:∀ j:Nat,j < b.keys.length→idx (b.wrote++[[]]) (j:Int)=idx b.wrote (j:Int):=fun j hj=>jH (by rw [h.wl]; exact hj);have w2:idx (b.wrote++[[]]) ((b.keys.length:Nat):Int)=[]:=kz h.wl.symm;have i1:∀ j:Nat,j < b.keys.length→idx (b.incs++[0]) (j:Int)=idx b.incs (j:Int):=fun j hj=>jH (by rw [h.il]; exact hj);have i2:idx (b.incs++[0]) ((b.keys.length:Nat):Int)=0:=kz h.il.symm;have l1:∀ j:Nat,j < b.keys.length→idx (b.last_++[-1]) (j:Int)=idx b.last_ (j:Int):=fun j hj=>jH (by rw [h.ll]; exact hj);have l2:idx (b.last_++[-1]) ((b.keys.length:Nat):Int) = -1:=kz h.ll.symm;have ho:=h.io s hn;have hne:∀ e ∈ E,e.1.Key≠s:=fun e he hs=>by
  obtain ⟨j,hj,hk⟩:=h.ks e he;exact hn j hj (hk.trans hs)
 have cut:∀ j:Nat,j < b.keys.length + 1→j < b.keys.length∨j=b.keys.length:=by omega
 refine ⟨by simp [h.tl],by simp [h.wl],by simp [h.il],by simp [h.ll],?_,?_,?_,?_,?_,?_,?_,?_,?_⟩
 ·intro i j hi hj he
  dsimp only at hi hj he
  rw [hl] at hi hj
  have:=h.nd i j;rcases cut i hi with hi' | hi' <;> rcases cut j hj with hj' | hj' <;> grind
 ·intro e he;obtain ⟨j,hj,hk⟩:=h.ks e he;exact ⟨j,by simp; omega,(k1 j hj).trans hk⟩
 ·intro e he j hj hk
  dsimp only at hj hk ⊢
  rw [hl] at hj
  rcases cut j hj with hj' | hj'
  ·rw [k1 j hj'] at hk; rw [t1 j hj']; exact h.ty e he j hj' hk
  ·subst hj'; rw [k2] at hk; exact absurd hk.symm (hne e he)
 ·intro j hj a
  dsimp only at hj ⊢
  rw [hl] at hj
  rcases cut j hj with hj' | hj'
  ·rw [k1 j hj',w1 j hj']; exact h.wr j hj' a
  ·subst hj'
   rw [k2,w2]
   constructor
   ·rintro ⟨m,hm,_⟩; simp at hm
   ·rintro ⟨e,he,hk,_⟩; exact absurd hk (hne e he)
 ·intro j hj
  dsimp only at hj ⊢
  rw [hl] at hj
  rcases cut j hj with hj' | hj'
  ·rw [w1 j hj']; exact h.wn j hj'
  ·subst hj'; rw [w2]; simp
 ·intro j hj
  dsimp only at hj ⊢
  rw [hl] at hj
  rcases cut j hj with hj' | hj'
  ·rw [k1 j hj',i1 j hj']; exact h.ic j hj'
  ·subst hj'; rw [k2,i2,ho]; rfl
 ·intro j hj
  dsimp only at hj ⊢
  rw [hl] at hj
  rcases cut j hj with hj' | hj'
  ·rw [k1 j hj']; exact h.i8 j hj'
  ·subst hj'; rw [k2,ho]; simp
 ·intro x hx
  dsimp only at hx ⊢
  rw [hl] at hx
  exact h.io x (fun j hj=>by rw [← k1 j hj]; exact hx j (by omega))
 ·intro j hj
  dsimp only at hj ⊢
  rw [hl] at hj
  rcases cut j hj with hj' | hj'
  ·rw [k1 j hj',l1 j hj']; exact h.la j hj'
  ·subst hj'; rw [k2,l2,ho]; simp
theorem iT {E:List (Call×Int)} {c:Call} {w:Int} {e:Call×Int}:e ∈ E++[(c,w)]↔e ∈ E∨e=(c,w):=by simp
theorem BookInv0.same {E:List (Call×Int)} {b:aI} {c:Call} {w:Int} {k:Nat} (h:BookInv0 E b) (hk:k < b.keys.length) (hs:idx b.keys (k:Int)=c.Key) (ht:idx b.types (k:Int)=typ c.Kind)
  (h2:c.Kind≠2) (h3:c.Kind≠3) (hw:qJ (mH E c.Key) c w c.Key=mH E c.Key):BookInv0 (E++[(c,w)]) b:=by
 have hws:∀ s,mH (E++[(c,w)]) s=mH E s:=fun s=>by
  rw [Ce]
  by_cases e:c.Kind=4∧c.Key=s
  ·rw [← e.2]; exact hw
  ·exact uG e
 refine ⟨h.tl,h.wl,h.il,h.ll,h.nd,?_,?_,?_,?_,?_,?_,?_,?_⟩
 ·intro e he;rcases iT.1 he with he | rfl
  ·exact h.ks e he
  ·exact ⟨k,hk,hs⟩
 ·intro e he j hj hkj;rcases iT.1 he with he | rfl
  ·exact h.ty e he j hj hkj
  ·have:=h.nd j k hj hk (hkj.trans hs.symm);subst this;exact ht
 ·intro j hj a
  rw [h.wr j hj a]
  constructor
  ·rintro ⟨e,he,r⟩; exact ⟨e,iT.2 (.inl he),r⟩
  ·rintro ⟨e,he,r⟩;rcases iT.1 he with he | rfl
   ·exact ⟨e,he,r⟩
   ·rcases r.2.1 with r | r <;> contradiction
 ·intro j hj;have:=h.wn j hj
  simp; omega
 ·intro j hj; rw [hws]; exact h.ic j hj
 ·intro j hj; rw [hws]; exact h.i8 j hj
 ·intro s hs'; rw [hws]; exact h.io s hs'
 ·intro j hj; rw [hws]; exact h.la j hj
theorem BookInv0.write {E:List (Call×Int)} {b:aI} {c:Call} {w:Int} {k:Nat} (h:BookInv0 E b) (hk:k < b.keys.length) (hs:idx b.keys (k:Int)=c.Key) (ht:idx b.types (k:Int)=typ c.Kind)
  (a0:c.Kind=2∨c.Kind=3):BookInv0 (E++[(c,w)]) ⟨b.keys,b.types,b.wrote.set k (idx b.wrote (k:Int)++[c.Arg]),b.incs,b.last_⟩:=by
 have hws:∀ s,mH (E++[(c,w)]) s=mH E s:=fun s=>by
  rw [Ce]
  exact uG (fun e=>by omega)
 have w1:∀ j:Nat,idx (b.wrote.set k (idx b.wrote (k:Int)++[c.Arg])) (j:Int)=if j=k then idx b.wrote (k:Int)++[c.Arg] else idx b.wrote (j:Int):=fun j=>oU (by rw [h.wl]; exact hk);refine ⟨h.tl,by simp [h.wl],h.il,h.ll,h.nd,?_,?_,?_,?_,?_,?_,?_,?_⟩
 ·intro e he;rcases iT.1 he with he | rfl
  ·exact h.ks e he
  ·exact ⟨k,hk,hs⟩
 ·intro e he j hj hkj;rcases iT.1 he with he | rfl
  ·exact h.ty e he j hj hkj
  ·have:=h.nd j k hj hk (hkj.trans hs.symm);subst this;exact ht
 ·intro j hj a
  dsimp only at hj ⊢
  rw [w1 j]
  have hold:=h.wr j hj a
  by_cases e:j=k
  ·subst e
   rw [if_pos rfl]
   constructor
   ·rintro ⟨m,hm,he⟩;rcases Nat.lt_or_ge m (idx b.wrote (j:Int)).length with h1 | h1
    ·rw [jH h1] at he
     obtain ⟨e,he',r⟩:=hold.1 ⟨m,h1,he⟩;exact ⟨e,iT.2 (.inl he'),r⟩
    ·simp at hm
     rw [kz (by omega)] at he
     exact ⟨(c,w),iT.2 (.inr rfl),hs.symm,a0,he⟩
   ·rintro ⟨e,he,r⟩;rcases iT.1 he with he | rfl
    ·obtain ⟨m,hm,hh⟩:=hold.2 ⟨e,he,r⟩;exact ⟨m,by simp; omega,(jH hm).trans hh⟩
    ·exact ⟨_,by simp,(kz rfl).trans r.2.2⟩
  ·rw [if_neg e,hold]
   constructor
   ·rintro ⟨e,he,r⟩; exact ⟨e,iT.2 (.inl he),r⟩
   ·rintro ⟨e',he,r⟩;rcases iT.1 he with he | rfl
    ·exact ⟨e',he,r⟩
    ·exact absurd (h.nd j k hj hk (r.1.symm.trans hs.symm)) e
 ·intro j hj
  dsimp only at hj ⊢
  rw [w1 j]
  have:=h.wn j hj
  split
  ·rename_i e; subst e; simp; omega
  ·simp; omega
 ·intro j hj; rw [hws]; exact h.ic j hj
 ·intro j hj; rw [hws]; exact h.i8 j hj
 ·intro s hs'; rw [hws]; exact h.io s hs'
 ·intro j hj; rw [hws]; exact h.la j hj
theorem BookInv0.inc {E:List (Call×Int)} {b:aI} {c:Call} {w:Int} {k:Nat} (h:BookInv0 E b) (hk:k < b.keys.length) (hs:idx b.keys (k:Int)=c.Key) (ht:idx b.types (k:Int)=typ c.Kind)
  (h4:c.Kind=4) (hw:qJ (mH E c.Key) c w c.Key=mH E c.Key++[w]) (h8:(mH E c.Key).length + 1≤8) :
  BookInv0 (E++[(c,w)]) ⟨b.keys,b.types,b.wrote,b.incs.set k (idx b.incs (k:Int) + 1),b.last_.set k w⟩:=by
 have hws:∀ s,mH (E++[(c,w)]) s=if c.Key=s then mH E s++[w] else mH E s:=fun s=>by
  rw [Ce]
  by_cases e:c.Key=s
  ·rw [if_pos e,← e]; exact hw
  ·rw [if_neg e]; exact uG (fun hh=>e hh.2)
 have i1:∀ j:Nat,idx (b.incs.set k (idx b.incs (k:Int) + 1)) (j:Int)=if j=k then idx b.incs (k:Int) + 1 else idx b.incs (j:Int):=fun j=>oU (by rw [h.il]; exact hk);have l1:∀ j:Nat,idx (b.last_.set k w) (j:Int)=if j=k then w else idx b.last_ (j:Int):=fun j=>oU (by rw [h.ll]; exact hk);have hne:∀ j:Nat,j < b.keys.length→(c.Key=idx b.keys (j:Int)↔j=k):=fun j hj=>⟨fun e=>h.nd j k hj hk (e.symm.trans hs.symm),fun e=>by rw [e,hs]⟩
 refine ⟨h.tl,h.wl,by simp [h.il],by simp [h.ll],h.nd,?_,?_,?_,?_,?_,?_,?_,?_⟩
 ·intro e he;rcases iT.1 he with he | rfl
  ·exact h.ks e he
  ·exact ⟨k,hk,hs⟩
 ·intro e he j hj hkj;rcases iT.1 he with he | rfl
  ·exact h.ty e he j hj hkj
  ·have:=h.nd j k hj hk (hkj.trans hs.symm);subst this;exact ht
 ·intro j hj a
  dsimp only at hj ⊢
  rw [h.wr j hj a]
  constructor
  ·rintro ⟨e,he,r⟩; exact ⟨e,iT.2 (.inl he),r⟩
  ·rintro ⟨e,he,r⟩;rcases iT.1 he with he | rfl
   ·exact ⟨e,he,r⟩
   ·have:=r.2.1; dsimp only at this; omega
 ·intro j hj;have:=h.wn j hj
  simp; omega
 ·intro j hj
  dsimp only at hj ⊢
  have:=h.ic j hj
  rw [hws,i1 j]
  by_cases e:j=k
  ·rw [if_pos e,if_pos ((hne j hj).2 e)]; subst e; simp; omega
  ·rw [if_neg e,if_neg (fun hh=>e ((hne j hj).1 hh))]; exact this
 ·intro j hj
  dsimp only at hj ⊢
  rw [hws]
  by_cases e:j=k
  ·rw [if_pos ((hne j hj).2 e)]; subst e; rw [hs]; simp; omega
  ·rw [if_neg (fun hh=>e ((hne j hj).1 hh))]; exact h.i8 j hj
 ·intro s hs'
  dsimp only at hs'
  rw [hws,if_neg (fun e=>hs' k hk (hs.trans e))]
  exact h.io s hs'
 ·intro j hj
  dsimp only at hj ⊢
  rw [hws,l1 j]
  by_cases e:j=k
  ·rw [if_pos e,if_pos ((hne j hj).2 e)]
   refine ⟨fun h0=>by simp at h0,fun _ => ?_⟩
   rw [kz (by simp)]
  ·rw [if_neg e,if_neg (fun hh=>e ((hne j hj).1 hh))]; exact h.la j hj
theorem IQ {E:List (Call×Int)} {b:aI} {c:Call} {w:Int} {k:Nat} (h:BookInv0 E b) (hk:k < b.keys.length) (hs:idx b.keys (k:Int)=c.Key) (ht:idx b.types (k:Int)=typ c.Kind)
  (h1:1≤c.Kind) (h8:c.Kind≤8) (hw:0≤w) (hE:E.length≤4096) :
  Tri (dY c w b.keys b.types b.wrote b.incs b.last_ (k:Int)) (fun r=>(r.1=0↔KV E c w)∧(r.1=0→BookInv0 (E++[(c,w)]) r.2∧r.2.keys=b.keys∧r.2.types=b.types)):=by
 have hin:=h.ic k hk;have a0:=h.i8 k hk;have hla:=h.la k hk;have hwr:=h.wr k hk c.Arg;have hwn:=h.wn k hk
 rw [hs] at hin a0 hla hwr
 refine fq (Fb (who:=w) hk h.tl h.wl h.il h.ll (by omega) (by omega) h1 h8) (fun r hr => ?_);have stay:∀ {l:List Int},qJ (mH E c.Key) c w c.Key=l→l=if c.Kind=4∧((mH E c.Key).length=0∨idx (mH E c.Key) (((mH E c.Key).length - 1:Nat):Int)≠w) then mH E c.Key++[w] else mH E c.Key:=by
  rintro l rfl;unfold qJ
  simp
 have st:=stay rfl;rcases hr with ⟨a,rfl⟩ | ⟨_,b1,b2,rfl⟩ | ⟨_,b1,b2,rfl⟩ | ⟨_,b1,b2,b3,b4⟩ | ⟨_,b1,b2,b3,rfl⟩ | ⟨_,b1,b2,rfl⟩ | ⟨_,b1,b2,b3,rfl⟩
 ·exact absurd ht a
 ·refine ⟨⟨fun h=>by simp at h,fun hh => ?_⟩,fun h=>by simp at h⟩
  obtain ⟨e,he,r1,r2,r3⟩:=hwr.1 b2;exact absurd r3 (hh.1 b1 e he r1 r2)
 ·refine ⟨⟨fun _=>⟨fun _ e he r1 r2 r3=>b2 (hwr.2 ⟨e,he,r1,r2,r3⟩),fun h4=>by omega⟩,fun _=>rfl⟩,fun _=>⟨h.write hk hs ht b1,rfl,rfl⟩⟩
 ·have hne:(mH E c.Key).length=0∨idx (mH E c.Key) (((mH E c.Key).length - 1:Nat):Int)≠w:=by grind
  rw [if_pos ⟨b1,hne⟩] at st
  refine ⟨⟨fun h0=>by omega,fun hh => ?_⟩,fun h0=>by omega⟩
  have:=hh.2 b1
  rw [st] at this
  simp at this
  omega
 ·have hne:(mH E c.Key).length=0∨idx (mH E c.Key) (((mH E c.Key).length - 1:Nat):Int)≠w:=by grind
  rw [if_pos ⟨b1,hne⟩] at st
  refine ⟨⟨fun _=>⟨fun h=>by omega,fun _=>by rw [st]; simp; omega⟩,fun _=>rfl⟩,fun _=>⟨h.inc hk hs ht b1 st (by omega),rfl,rfl⟩⟩
 ·have hne:¬ ((mH E c.Key).length=0∨idx (mH E c.Key) (((mH E c.Key).length - 1:Nat):Int)≠w):=by grind
  rw [if_neg (fun hh=>hne hh.2)] at st
  refine ⟨⟨fun _=>⟨fun h=>by omega,fun _=>by rw [st]; exact a0⟩,fun _=>rfl⟩,fun _=>⟨h.same hk hs ht (by omega) (by omega) st,rfl,rfl⟩⟩
 ·rw [if_neg (fun hh=>b3 hh.1)] at st
  refine ⟨⟨fun _=>⟨fun h=>by omega,fun h=>by omega⟩,fun _=>rfl⟩,fun _=>⟨h.same hk hs ht b1 b2 st,rfl,rfl⟩⟩
structure qK (E:List (Call×Int)) (b:aI):Prop extends BookInv0 E b where
 len:b.keys.length≤32
 kex:∀ j:Nat,j < b.keys.length→∃ e ∈ E,e.1.Key=idx b.keys (j:Int)
theorem qK.start:qK [] ⟨[],[],[],[],[]⟩:=⟨BookInv0.start,by simp,fun j hj=>by simp at hj⟩
theorem Jv {E:List (Call×Int)} {b:aI} {c:Call} {w:Int} (h:qK E b) (hroom:b.keys.length=32→∃ j:Nat,j < b.keys.length∧idx b.keys (j:Int)=c.Key)
  (h1:1≤c.Kind) (h8:c.Kind≤8) (hw:0≤w) (hE:E.length≤4096) :
  Tri (ag b c w) (fun r=>(r.1=0↔IP E c w)∧(r.1=0→qK (E++[(c,w)]) r.2)):=by
 have hl:=h.len;have t1:=h.tl;have t2:=h.wl;have t3:=h.il;have t4:=h.ll;obtain ⟨r0,a5,hf⟩:=Cb (l:=b.keys) (s:=c.Key) (by omega);unfold ag
 rw [a5]
 refine cz ?_;rcases hf with ⟨rfl,hno⟩ | ⟨k,rfl,a0,a1,_⟩
 ·refine aA (fun _ => ?_) (fun hh=>by omega);refine aA (fun a4 => ?_) (fun a4 => ?_)
  ·obtain ⟨j,hj,he⟩:=hroom (by omega);exact absurd he (hno j hj)
  ·have hn:=h.toBookInv0.new (s:=c.Key) (t:=typ c.Kind) hno;have hat:=IQ (w:=w) hn (k:=b.keys.length) (by simp) (kz rfl) (kz t1.symm) h1 h8 hw hE;have hne:∀ e ∈ E,e.1.Key≠c.Key:=fun e he hs=>by
    obtain ⟨j,hj,hk⟩:=h.ks e he;exact hno j hj (hk.trans hs)
   unfold iH iG
   simp only [Bl h1 h8]
   refine ax (by omega) (cz (ax (by omega) (ax (by omega) (ax (by omega) (ax (by omega) ?_)))));refine fq hat (fun r hr => ?_);refine ⟨hr.1.trans ⟨fun hh=>⟨fun e he hs=>absurd hs (hne e he),hh⟩,fun hh=>hh.2⟩,fun h0 => ?_⟩;obtain ⟨q1,q2,q3⟩:=hr.2 h0;refine ⟨q1,by rw [q2]; simp; omega,fun j hj => ?_⟩
   rw [q2] at hj ⊢
   have hj:j < b.keys.length + 1:=by simpa using hj
   rcases (by omega:j < b.keys.length∨j=b.keys.length) with hj' | hj'
   ·obtain ⟨e,he,hk⟩:=h.kex j hj';exact ⟨e,iT.2 (.inl he),by rw [hk]; exact (jH hj').symm⟩
   ·subst hj';exact ⟨(c,w),iT.2 (.inr rfl),(kz rfl).symm⟩
 ·refine aA (fun hh=>by omega) (fun _ => ?_);obtain ⟨e0,a3,a2⟩:=h.kex k a0;have hty:=h.ty e0 a3 k a0 a2.symm
  by_cases ht:idx b.types (k:Int)=typ c.Kind
  ·have hat:=IQ (w:=w) h.toBookInv0 a0 a1 ht h1 h8 hw hE;refine fq hat (fun r hr => ?_);refine ⟨hr.1.trans ⟨fun hh=>⟨fun e he hs => ?_,hh⟩,fun hh=>hh.2⟩,fun h0 => ?_⟩
   ·exact (h.ty e he k a0 (a1.trans hs.symm)).symm.trans ht
   ·obtain ⟨q1,q2,q3⟩:=hr.2 h0;refine ⟨q1,by rw [q2]; exact hl,fun j hj => ?_⟩
    rw [q2] at hj ⊢
    obtain ⟨e,he,hk⟩:=h.kex j hj;exact ⟨e,iT.2 (.inl he),hk⟩
  ·have hin:=h.ic k a0;have a6:=h.i8 k a0;have hwn:=h.wn k a0;refine fq (Fb (who:=w) a0 t1 t2 t3 t4 (by omega) (by omega) h1 h8) (fun r hr => ?_);have hno:¬ IP E c w:=fun hh=>ht (hty.trans (hh.1 e0 a3 (a2.trans a1)));rcases hr with ⟨a,rfl⟩ | ⟨a,_⟩ | ⟨a,_⟩ | ⟨a,_⟩ | ⟨a,_⟩ | ⟨a,_⟩ | ⟨a,_⟩
   ·exact ⟨⟨fun h=>by simp at h,fun hh=>absurd hh hno⟩,fun h=>by simp at h⟩
   all_goals exact absurd a ht
def Dv (h:History) (i:Nat):List (Call×Int):=(dI h (idx h.Txns (i:Int))).map (fun c=>(c,(i:Int)))
def tF (h:History) (k:Nat):List (Call×Int):=(List.range k).flatMap (Dv h)
theorem uH {h:History} {k:Nat}:tF h (k + 1)=tF h k++Dv h k:=by
 unfold tF; rw [List.range_succ,List.flatMap_append]; simp
def qL (E L:List (Call×Int)):Prop:=∀ j:Nat,j < L.length→IP (E++L.take j) (idx L (j:Int)).1 (idx L (j:Int)).2
theorem qL.append {E L M:List (Call×Int)}:qL E (L++M)↔qL E L∧qL (E++L) M:=by
 constructor
 ·intro h;refine ⟨fun j hj => ?_,fun j hj => ?_⟩
  ·have:=h j (by simp; omega)
   rwa [jH hj,List.take_append_of_le_length (by omega)] at this
  ·have:=h (L.length + j) (by simp; omega)
   rw [List.take_append,List.take_of_length_le (by omega),show L.length + j - L.length=j by omega,← List.append_assoc] at this
   rwa [show idx (L++M) ((L.length + j:Nat):Int)=idx M (j:Int) from by
    rw [eB rfl (by simp; omega),eB rfl hj,List.getElem_append_right (by omega)]; congr 1; omega] at this
 ·rintro ⟨h1,h2⟩ j hj;rcases Nat.lt_or_ge j L.length with h3 | h3
  ·rw [jH h3,List.take_append_of_le_length (by omega)]; exact h1 j h3
  ·obtain ⟨i,rfl⟩:∃ i,j=L.length + i:=⟨j - L.length,by omega⟩
   have hi:i < M.length:=by simp at hj; omega
   have:=h2 i hi
   rw [List.take_append,List.take_of_length_le (by omega),show L.length + i - L.length=i by omega,← List.append_assoc]
   rwa [show idx (L++M) ((L.length + i:Nat):Int)=idx M (i:Int) from by
    rw [eB rfl (by simp; omega),eB rfl hi,List.getElem_append_right (by omega)]; congr 1; omega]
theorem room {K l:List ByteArray} {s:ByteArray} (hK:K.length≤32) (hl:l.length=32) (nd:∀ i j:Nat,i < l.length→j < l.length→idx l (i:Int)=idx l (j:Int)→i=j)
  (hs:s ∈ K) (hsub:∀ x ∈ l,x ∈ K):∃ j:Nat,j < l.length∧idx l (j:Int)=s:=by
 have hnd:l.Nodup:=by
  rw [List.nodup_iff_pairwise_ne,List.pairwise_iff_getElem]
  intro i j hi hj hij he;have:=nd i j hi hj (by rw [eB rfl hi,eB rfl hj]; exact he)
  omega
 by_cases h:s ∈ l
 ·obtain ⟨j,hj,he⟩:=List.getElem_of_mem h;exact ⟨j,hj,(eB rfl hj).trans he⟩
 ·have h1:(s::l).Nodup:=List.nodup_cons.2 ⟨h,hnd⟩;have h2:=h1.length_le_of_subset (l₂:=K) (fun x hx=>by
   rcases List.mem_cons.1 hx with rfl | hx
   ·exact hs
   ·exact hsub x hx)
  simp at h2
  omega
def InK (K:List ByteArray) (E:List (Call×Int)):Prop:=∀ e ∈ E,e.1.Key ∈ K
theorem qK.sub {K:List ByteArray} {E:List (Call×Int)} {b:aI} (h:qK E b) (hE:InK K E):∀ x ∈ b.keys,x ∈ K:=by
 intro x hx;obtain ⟨j,hj,rfl⟩:=List.getElem_of_mem hx;obtain ⟨e,he,hk⟩:=h.kex j hj;have:=hE e he
 rw [hk,eB rfl hj] at this
 exact this
theorem Hw {K:List ByteArray} {E:List (Call×Int)} {b:aI} {i:Nat} {l:List Call} (h:qK E b) (hK:K.length≤32) (hEK:InK K E) (hlK:∀ c ∈ l,c.Key ∈ K) (hl:l.length≤16) (hi:i < 64) (hn:E.length≤1024)
  (hc:uV l (fun c=>1≤c.Kind∧c.Kind≤8)) :
  Tri (iter (fJ (i:Int) l) (Bn b 0)) (fun x=>(qL E (l.map (fun c=>(c,(i:Int))))→∃ b',x = .inr (.inl (Bn b' ((i + 1:Nat):Int)))∧qK (E++l.map (fun c=>(c,(i:Int)))) b') ∧
   (¬ qL E (l.map (fun c=>(c,(i:Int))))→x = .inr (.inr 1))):=by
 generalize hm:l.map (fun c=>(c,(i:Int)))=m;have hml:m.length=l.length:=by rw [← hm]; simp
 have hmi:∀ k:Nat,k < l.length→idx m (k:Int)=(idx l (k:Int),(i:Int)):=fun k hk=>by rw [← hm,zo hk]
 refine eZ (k0:=0) l.length (fun k s=>∃ b',s=Bn b' (k:Int)∧qK (E++m.take k) b'∧∀ j:Nat,j < k→IP (E++m.take j) (idx m (j:Int)).1 (idx m (j:Int)).2) (Nat.zero_le _) ⟨b,rfl,by simpa using h,fun j hj=>absurd hj (Nat.not_lt_zero _)⟩ ?_
 rintro k s hk ⟨b',rfl,hb,hJ⟩;unfold fJ Bn
 dsimp only
 refine aA (fun a1 => ?_) (fun a1 => ?_)
 ·have a0:k < l.length:=by omega
  have hin:InK K (E++m.take k):=fun e he=>by
   rcases List.mem_append.1 he with he | he
   ·exact hEK e he
   ·have:=List.mem_of_mem_take he
    rw [← hm] at this
    obtain ⟨c,hc,rfl⟩:=List.mem_map.1 this;exact hlK c hc
  have hcK:(idx l (k:Int)).Key ∈ K:=hlK _ (by rw [eB rfl a0]; exact List.getElem_mem a0);have hw:w64 ((k:Int) + 1)=((k + 1:Nat):Int):=bN (by omega);obtain ⟨r,hr,q1,q2⟩:=Jv (c:=idx l (k:Int)) (w:=(i:Int)) hb (fun a2=>room hK a2 hb.nd hcK (hb.sub hin)) (hc k a0).1 (hc k a0).2 (by omega) (by simp; omega);refine ax (by omega) (dM hr ?_);refine aA (fun h0 => ?_) (fun h0 => ?_)
  ·refine aK (aK (aK (aj ⟨fun hall => ?_,fun _=>rfl⟩)));have:=hall k (by omega)
   rw [hmi k a0] at this
   exact absurd (q1.2 this) h0
  ·refine aj ⟨a0,r.2,?_,?_,?_⟩
   ·rw [hw]
   ·rw [lW (by omega),hmi k a0,← List.append_assoc]
    exact q2 (by omega)
   ·intro j hj;rcases Nat.lt_or_ge j k with h1 | h1
    ·exact hJ j h1
    ·rw [show j=k by omega,hmi k a0]; exact q1.1 (by omega)
 ·have hw:w64 ((i:Int) + 1)=((i + 1:Nat):Int):=bN (by omega)
  rw [hw]
  have hfull:m.take k=m:=List.take_of_length_le (by omega)
  rw [hfull] at hb
  refine aK (aK (aj ⟨fun _=>⟨b',rfl,hb⟩,fun hno=>absurd (fun j hj=>hJ j (by omega)) hno⟩))
structure oh (h:History):Prop where
 names:qI h.Keys
 len:h.Txns.length≤32
 txn:∀ i:Nat,i < h.Txns.length→Bo h i
 ents:qL [] (tF h h.Txns.length)
theorem keys_in {h:History} {i:Nat} (hi:xA h (idx h.Txns (i:Int))):∀ c ∈ dI h (idx h.Txns (i:Int)),c.Key ∈ h.Keys:=by
 intro c hc;obtain ⟨o,ho,rfl⟩:=List.mem_map.1 hc;have:=(yV.1 hi) o ho
 show idx h.Keys o.Key ∈ h.Keys
 rw [eB (n:=o.Key.toNat) (by omega) (by omega)]
 exact List.getElem_mem _
theorem Jw {h:History} {i:Nat} (hi:Bo h i):(Dv h i).length≤16:=by
 have:=hi.2.2.2.2.1
 simpa [Dv,zS,dI] using this
theorem CG {h:History} (hs:wC h):Tri (av h) (fun v=>(v=0↔oh h)∧(v=0∨v=1)):=by
 obtain ⟨a5,a4,a3⟩:=hs;obtain ⟨y,hy,hn⟩:=Du (l:=h.Keys) (by omega);unfold av gP
 simp only [cond_true,cond_false]
 repeat' (first | contradiction | with_reducible refine aA (fun hq => ?_) (fun hq => ?_) | with_reducible refine ax (by first | omega | grind [bW]) ?_ | with_reducible refine aK ?_ | with_reducible refine cz ?_ | with_reducible refine dE ?_ | with_reducible refine dF ?_ | with_reducible refine dG ?_ | with_reducible refine aj ?_ | refine dM hy ?_)
 ·exact ⟨⟨fun h=>absurd h (by decide),fun hS=>absurd (hn.2 hS.names) ‹¬y=true›⟩,.inr rfl⟩
 ·exact ⟨⟨fun h=>absurd h (by decide),fun hS=>absurd hS.len (by omega)⟩,.inr rfl⟩
 ·have hN:qI h.Keys:=hn.1 (Decidable.of_not_not ‹¬¬y=true›);have a1:h.Txns.length≤32:=by omega
  refine eZ (k0:=0) h.Txns.length (fun k s=>∃ b,s=Bn b (k:Int)∧qK (tF h k) b∧InK h.Keys (tF h k)∧(tF h k).length≤16 * k∧qL [] (tF h k)∧∀ j:Nat,j < k→Bo h j) (Nat.zero_le _)
   ⟨⟨[],[],[],[],[]⟩,rfl,qK.start,fun e he=>by simp [tF] at he,by simp [tF],fun j hj=>by simp [tF] at hj,fun j hj=>absurd hj (Nat.not_lt_zero _)⟩ ?_
  rintro k s hk ⟨b,rfl,hb,hin,hlen,hents,hJ⟩;unfold jg jf Bn
  simp only [cond_true,cond_false]
  have hbad:(k < h.Txns.length → ¬ Bo h k)→k < h.Txns.length → ¬ oh h:=fun h1 h2 hS=>h1 h2 (hS.txn k h2);refine aA (fun a2 => ?_) (fun a2 => ?_)
  ·have a0:k < h.Txns.length:=by omega
   obtain ⟨p',hp',hp1'⟩:=xN (l:=h.Txns) a0 (by omega);have hco:Ar (zS h (idx h.Txns (k:Int)))→(idx h.Txns (k:Int)).Ops.length≤16:=fun he=>by
    have:=he.2.2.1
    simpa [zS,dI] using this
   repeat' (first | contradiction | with_reducible refine aA (fun hq => ?_) (fun hq => ?_) | with_reducible refine ax (by first | omega | grind [bW]) ?_ | with_reducible refine aK ?_ | with_reducible refine cz ?_ | with_reducible refine dE ?_ | with_reducible refine dF ?_ | with_reducible refine dG ?_ | with_reducible refine aj ?_ | refine dM hp' ?_)
   ·exact ⟨⟨fun h=>absurd h (by decide),fun hS=>absurd (hp1'.2 (hS.txn k a0).1) ‹¬p'=true›⟩,.inr rfl⟩
   ·exact ⟨⟨fun h=>absurd h (by decide),fun hS=>absurd (hco (hS.txn k a0).2.2) (by omega)⟩,.inr rfl⟩
   ·refine Fe (b:=b) a0 (a3 k a0) (by omega) (fun hno => ?_) (fun hKo hEv => ?_)
    ·exact ⟨⟨fun h=>absurd h (by decide),fun hS=>absurd ⟨(hS.txn k a0).2.1,(hS.txn k a0).2.2⟩ hno⟩,.inr rfl⟩
    ·have hok:Bo h k:=⟨hp1'.1 (Decidable.of_not_not ‹¬¬p'=true›),hKo,hEv⟩;have hc:uV (dI h (idx h.Txns (k:Int))) (fun c=>1≤c.Kind∧c.Kind≤8):=fun j hj=>⟨(hEv.2.2.2 j hj).1,(hEv.2.2.2 j hj).2.1⟩;refine fq (Hw (i:=k) hb hN.1 hin (keys_in hKo) hEv.2.2.1 (by omega) (by omega) hc) (fun x hx => ?_)
     by_cases hall:qL (tF h k) (Dv h k)
     ·obtain ⟨b',rfl,hb'⟩:=hx.1 hall;refine ⟨a0,b',rfl,by rw [uH]; exact hb',?_,?_,?_,?_⟩
      ·rw [uH]
       intro e he;rcases List.mem_append.1 he with he | he
       ·exact hin e he
       ·obtain ⟨c,hc,rfl⟩:=List.mem_map.1 he;exact keys_in hKo c hc
      ·have:=Jw hok
       rw [uH,List.length_append]; omega
      ·rw [uH]
       exact qL.append.2 ⟨hents,hall⟩
      ·intro j hj;rcases Nat.lt_or_ge j k with h1 | h1
       ·exact hJ j h1
       ·rw [show j=k by omega]; exact hok
     ·rw [hx.2 hall]
      refine ⟨⟨fun h=>absurd h (by decide),fun hS=>absurd ?_ hall⟩,.inr rfl⟩;have hsp:∀ n:Nat,k + 1≤n→qL [] (tF h n)→qL (tF h k) (Dv h k):=by
       intro n
       induction n with
       | zero=>intro h; omega
       | succ n ih =>
        intro hn hE
        rw [uH,qL.append] at hE
        rcases Nat.lt_or_ge k n with h1 | h1
        ·exact ih (by omega) hE.1
        ·rw [show n=k by omega] at hE
         exact hE.2
      exact hsp _ a0 hS.ents
  ·have a0:k=h.Txns.length:=by omega
   repeat' (first | contradiction | with_reducible refine aA (fun hq => ?_) (fun hq => ?_) | with_reducible refine ax (by first | omega | grind [bW]) ?_ | with_reducible refine aK ?_ | with_reducible refine cz ?_ | with_reducible refine dE ?_ | with_reducible refine dF ?_ | with_reducible refine dG ?_ | with_reducible refine aj ?_)
   rw [a0] at hents hJ
   exact ⟨⟨fun _=>⟨hN,a1,hJ,hents⟩,fun _=>rfl⟩,.inl rfl⟩
theorem Dw {h:History} (hs:wC h):∃ v,aZ h=some v∧av h=some v∧(v=0∨v=1)∧(v=0↔oh h):=by
 obtain ⟨v,hv,v',hv',rfl,a0⟩:=Cc hs;obtain ⟨w,hw,h1,h2⟩:=CG hs;have:v=w:=Option.some.inj (hv'.symm.trans hw);subst this;exact ⟨v,hv,hv',a0,h1⟩
end Go.Proofs.YtfpeabnehpclnaaGreatT
namespace Go.Proofs.YtfpeabnehpclnaaGreatT
open Go Go.Proofs Go.Proofs.YtfpeabnehpclnaaGreatE
set_option linter.unusedVariables false
set_option linter.unusedSimpArgs false
def tN (ops:List Op) (key:Int) (p:Nat):List Int:=((ops.take p).filter (fun o=>decide (o.Key=key∧o.Kind≤4))).map (·.Arg)
theorem Jy {ops:List Op} {key:Int}:tN ops key 0=[]:=rfl
theorem wV {ops:List Op} {key:Int} {p:Nat} (h:p < ops.length):tN ops key (p + 1)=if (idx ops (p:Int)).Key=key∧(idx ops (p:Int)).Kind≤4 then tN ops key p++[(idx ops (p:Int)).Arg] else tN ops key p:=by
 unfold tN
 rw [lW h,List.filter_append,List.map_append]
 by_cases e:(idx ops (p:Int)).Key=key∧(idx ops (p:Int)).Kind≤4
 ·simp [e]
 ·rw [if_neg e]
  simp only [List.filter_cons,List.filter_nil,decide_eq_true_eq,if_neg e]
  simp
theorem uI {ops:List Op} {key:Int} {p:Nat}:(tN ops key p).length≤ops.length:=by
 unfold tN
 rw [List.length_map]
 exact Nat.le_trans (List.length_filter_le _ _) (by simp; omega)
def Bp (ops:List Op) (t:Int) (p:Nat):List Ask :=
 let o:=idx ops (p:Int)
 let mine:=tN ops o.Key p
 if o.Kind≤4 then [] else if mine=[] then [⟨t,p,o.Key,o.Vals⟩] else if (before (o.Kind - 4) o.Vals mine).2=true∧o.Kind≠5 then [⟨t,p,o.Key,(before (o.Kind - 4) o.Vals mine).1⟩] else []
def Cf (ops:List Op) (t:Int) (p:Nat):List gp :=
 let o:=idx ops (p:Int)
 let mine:=tN ops o.Key p
 if o.Kind≤4 then [] else if mine=[] then [] else if (before (o.Kind - 4) o.Vals mine).2=true then [] else [⟨t,p⟩]
def sK (ops:List Op) (t:Int) (k:Nat):List Ask:=(List.range k).flatMap (Bp ops t)
def tO (ops:List Op) (t:Int) (k:Nat):List gp:=(List.range k).flatMap (Cf ops t)
theorem yR {ops:List Op} {t:Int} {k:Nat}:sK ops t (k + 1)=sK ops t k++Bp ops t k:=by
 unfold sK; rw [List.range_succ,List.flatMap_append]; simp
theorem xB {ops:List Op} {t:Int} {k:Nat}:tO ops t (k + 1)=tO ops t k++Cf ops t k:=by
 unfold tO; rw [List.range_succ,List.flatMap_append]; simp
theorem Av {ops:List Op} {t:Int} {k:Nat}:(sK ops t k).length≤k:=by
 induction k with
 | zero=>simp [sK]
 | succ k ih =>
  rw [yR,List.length_append]
  have:(Bp ops t k).length≤1:=by
   unfold Bp
   dsimp only
   split
   ·simp
   ·split
    ·simp
    ·split <;> simp
  omega
theorem yS {ops:List Op} {t:Int} {k:Nat}:(tO ops t k).length≤k:=by
 induction k with
 | zero=>simp [tO]
 | succ k ih =>
  rw [xB,List.length_append]
  have:(Cf ops t k).length≤1:=by
   unfold Cf
   dsimp only
   split
   ·simp
   ·split
    ·simp
    ·split <;> simp
  omega
def sM (h:History) (t:Int):List Ask:=if (idx h.Txns t).Status=1 then sK (idx h.Txns t).Ops t (idx h.Txns t).Ops.length else []
def vF (h:History) (t:Int):List gp:=if (idx h.Txns t).Status=1 then tO (idx h.Txns t).Ops t (idx h.Txns t).Ops.length else []
def IR (ops:List Op):Prop:=ops.length≤16∧uV ops (fun o=>1≤o.Kind∧o.Kind≤8∧o.Vals.length≤64)
theorem Bo.ops {h:History} {i:Nat} (hi:Bo h i):IR (idx h.Txns (i:Int)).Ops:=by
 obtain ⟨_,_,_,_,h1,h2⟩:=hi;refine ⟨by simpa [zS,dI] using h1,fun j hj => ?_⟩
 have:=h2 j (by simpa [zS,dI] using hj)
 dsimp only [zS,dI] at this
 rw [zo hj] at this
 unfold sJ yO at this
 dsimp only at this
 grind
theorem Jz {h:History} {t:Nat} {f:eP} (ht:t < h.Txns.length) (ho:IR (idx h.Txns (t:Int)).Ops) (ha:f.asks.length≤1000000) (hb:f.bad.length≤1000000) :
  Tri (bv f h (t:Int)) (fun r=>r=⟨f.asks++sM h (t:Int),f.bad++vF h (t:Int)⟩):=by
 unfold bv sM vF;refine ax (by omega) ?_;refine aA (fun h1 => ?_) (fun h1 => ?_)
 ·rw [if_neg h1,if_neg h1]
  exact aj (by simp)
 ·have h1:(idx h.Txns (t:Int)).Status=1:=Decidable.of_not_not h1
  rw [if_pos h1,if_pos h1]
  generalize hx:(idx h.Txns (t:Int)).Ops=ops at ho ⊢;obtain ⟨a3,hall⟩:=ho;refine eZ (k0:=0) ops.length (fun k s=>s.1=f.asks++sK ops (t:Int) k∧s.2.1=f.bad++tO ops (t:Int) k∧(∀ key,mat s.2.2.1 key=tN ops key k)∧s.2.2.2=(k:Int)) (Nat.zero_le _)
   ⟨by simp [sK],by simp [tO],fun key=>rfl,rfl⟩ ?_
  rintro k ⟨l1,l2,m,x⟩ hk ⟨e1,e2,hm,e4⟩
  dsimp only at e1 e2 hm e4
  subst e1 e2 e4;unfold oF lF lD iq
  simp only [cond_true,cond_false,hx,hm]
  have hw:w64 ((k:Int) + 1)=((k + 1:Nat):Int):=bN (by omega);have l1:=Av (ops:=ops) (t:=(t:Int)) (k:=k);have l2:=yS (ops:=ops) (t:=(t:Int)) (k:=k);have l3:=uI (ops:=ops) (key:=(idx ops (k:Int)).Key) (p:=k);have hn:∀ key,k < ops.length→tN ops key (k + 1)=_:=fun key hk=>wV hk
  rw [hw]
  refine aA (fun a1 => ?_) (fun a1 => ?_)
  ·have a0:k < ops.length:=by omega
   obtain ⟨o1,o2,o3⟩:=hall k a0;have a2:w64 ((idx ops (k:Int)).Kind - 4)=(idx ops (k:Int)).Kind - 4:=bW (by omega) (by omega);have hbf:=Bi ((idx ops (k:Int)).Kind - 4) (s:=(idx ops (k:Int)).Vals) (args:=tN ops (idx ops (k:Int)).Key k) (by omega) (by omega);have hcl:fG (idx ops (k:Int)).Vals=some (idx ops (k:Int)).Vals:=lX _ (by omega)
   rw [a2,hbf,hcl]
   simp only [List.length_append]
   have hA:=yR (ops:=ops) (t:=(t:Int)) (k:=k);have hB:=xB (ops:=ops) (t:=(t:Int)) (k:=k);have hnil:∀ l:List Int,l=[]↔l.length=0:=fun l=>List.length_eq_zero_iff.symm;unfold Bp at hA;unfold Cf at hB
   dsimp only at hA hB
   repeat' (first | contradiction | with_reducible refine aA (fun hq => ?_) (fun hq => ?_) | with_reducible refine ax (by first | omega | grind [bW]) ?_ | with_reducible refine aK ?_ | with_reducible refine cz ?_ | with_reducible refine dE ?_ | with_reducible refine dF ?_ | with_reducible refine dG ?_ | with_reducible refine aj ?_)
   all_goals (refine ⟨a0,?_,?_,fun key => ?_,rfl⟩ <;> dsimp only)
   all_goals grind [rV]
  ·have:k=ops.length:=by omega
   subst this
   repeat' (first | contradiction | with_reducible refine aA (fun hq => ?_) (fun hq => ?_) | with_reducible refine ax (by first | omega | grind [bW]) ?_ | with_reducible refine aK ?_ | with_reducible refine cz ?_ | with_reducible refine dE ?_ | with_reducible refine dF ?_ | with_reducible refine dG ?_ | with_reducible refine aj ?_)
   rfl
theorem KW {k:Int} (h1:5≤k) (h8:k≤8):typ k=k - 4:=by unfold typ; omega
theorem Gb {h:History} {t:Nat} (ht:t < h.Txns.length) (ho:IR (idx h.Txns (t:Int)).Ops) :
  aW h (t:Int)=some (sM h (t:Int),vF h (t:Int)):=by
 refine gI.1 ?_;unfold aW sM vF;refine ax (by omega) ?_;refine aA (fun h1 => ?_) (fun h1 => ?_)
 ·rw [if_neg h1,if_neg h1]
  exact aj rfl
 ·have h1:(idx h.Txns (t:Int)).Status=1:=Decidable.of_not_not h1
  rw [if_pos h1,if_pos h1]
  generalize hx:(idx h.Txns (t:Int)).Ops=ops at ho ⊢;obtain ⟨a3,hall⟩:=ho;refine eZ (k0:=0) ops.length (fun k s=>s=(sK ops (t:Int) k,tO ops (t:Int) k,(k:Int))) (Nat.zero_le _) rfl ?_;rintro k s hk rfl;have l1:=Av (ops:=ops) (t:=(t:Int)) (k:=k);have l2:=yS (ops:=ops) (t:=(t:Int)) (k:=k);have l3:=uI (ops:=ops) (key:=(idx ops (k:Int)).Key) (p:=k);have hw:w64 ((k:Int) + 1)=((k + 1:Nat):Int):=bN (by omega);unfold qB fM
  simp only [hx]
  refine aA (fun a1 => ?_) (fun a1 => ?_)
  ·have a0:k < ops.length:=by omega
   obtain ⟨o1,o2,o3⟩:=hall k a0;have hA:=yR (ops:=ops) (t:=(t:Int)) (k:=k);have hB:=xB (ops:=ops) (t:=(t:Int)) (k:=k);unfold Bp at hA;unfold Cf at hB
   dsimp only at hA hB
   refine ax (by omega) (cz (aA (fun a2 => ?_) (fun a2 => ?_)))
   ·unfold ib
    rw [hw]
    refine aj ⟨a0,?_⟩
    grind
   ·refine eZ (k0:=0) k (fun j s=>s=(tN ops (idx ops (k:Int)).Key j,(j:Int))) (Nat.zero_le _) rfl ?_;rintro j s hj rfl;have l4:=uI (ops:=ops) (key:=(idx ops (k:Int)).Key) (p:=j);have hwj:w64 ((j:Int) + 1)=((j + 1:Nat):Int):=bN (by omega);have hn:j < ops.length→tN ops (idx ops (k:Int)).Key (j + 1)=_:=fun hk=>wV hk;have hbf:=Cz ((idx ops (k:Int)).Kind - 4) (s:=(idx ops (k:Int)).Vals) (args:=tN ops (idx ops (k:Int)).Key j) (by omega) (by omega);have hty:fI (idx ops (k:Int)).Kind=some ((idx ops (k:Int)).Kind - 4):=by rw [Bl o1 o2,KW (by omega) o2]
    unfold qA nJ nK nI ib fM
    simp only [cond_true,cond_false,hx,hw,hwj,hty,hbf,List.nil_append]
    have hnil:∀ l:List Int,l=[]↔l.length=0:=fun l=>List.length_eq_zero_iff.symm
    repeat' (first | contradiction | with_reducible refine aA (fun hq => ?_) (fun hq => ?_) | with_reducible refine ax (by first | omega | grind [bW]) ?_ | with_reducible refine aK ?_ | with_reducible refine cz ?_ | with_reducible refine dE ?_ | with_reducible refine dF ?_ | with_reducible refine dG ?_ | with_reducible refine aj ?_ | refine dM hbf ?_)
    all_goals grind [Upm]
  ·have:k=ops.length:=by omega
   subst this
   repeat' (first | contradiction | with_reducible refine aA (fun hq => ?_) (fun hq => ?_) | with_reducible refine ax (by first | omega | grind [bW]) ?_ | with_reducible refine aK ?_ | with_reducible refine cz ?_ | with_reducible refine dE ?_ | with_reducible refine dF ?_ | with_reducible refine dG ?_ | with_reducible refine aj ?_)
   rfl
end Go.Proofs.YtfpeabnehpclnaaGreatT
namespace Go.Proofs.YtfpeabnehpclnaaGreatT
open Go Go.Proofs Go.Proofs.YtfpeabnehpclnaaGreatE
set_option linter.unusedVariables false
set_option linter.unusedSimpArgs false
end Go.Proofs.YtfpeabnehpclnaaGreatT
namespace Go.Proofs.YtfpeabnehpclnaaGreatT
open Go Go.Proofs Go.Proofs.YtfpeabnehpclnaaGreatE
set_option linter.unusedVariables false
set_option linter.unusedSimpArgs false
abbrev OG (y:Op):Prop:=((Lit.int .i64 (y).Kind).wf=true)∧((Lit.int .i64 (y).Key).wf=true)∧((Lit.int .i64 (y).Arg).wf=true)∧(True)∧((∀ z ∈ (y).Vals,(Lit.int .i64 z).wf=true)∧((y).Vals).length * 8≤140737488351232)
abbrev TG (y:Txn):Prop:=((Lit.int .i64 (y).Proc).wf=true)∧((Lit.int .i64 (y).Status).wf=true)∧((Lit.int .i64 (y).From).wf=true)∧((Lit.int .i64 (y).To).wf=true)∧((∀ z ∈ (y).Ops,OG z)∧((y).Ops).length * 56≤140737488351232)
abbrev HG (K:ByteArray→Prop) (x:History):Prop:=((∀ y ∈ (x).Keys,K y)∧((x).Keys).length * 16≤140737488351232)∧((∀ y ∈ (x).Txns,TG y)∧((x).Txns).length * 56≤140737488351232)
theorem HG.small {K:ByteArray→Prop} {h:History} (g:HG K h):wC h :=
 ⟨g.1.2,g.2.2,yV.2 fun t ht=>⟨(g.2.1 t ht).2.2.2.2.2,yV.2 fun o ho=>((g.2.1 t ht).2.2.2.2.1 o ho).2.2.2.2.2⟩⟩
theorem Bq {h:History} {t:Nat} (ho:IR (idx h.Txns (t:Int)).Ops):(sM h (t:Int)).length≤16∧(vF h (t:Int)).length≤16∧uV (sM h (t:Int)) (fun x=>x.Base.length < 2 ^ 62):=by
 have h1:=Av (ops:=(idx h.Txns (t:Int)).Ops) (t:=(t:Int)) (k:=(idx h.Txns (t:Int)).Ops.length);have h2:=yS (ops:=(idx h.Txns (t:Int)).Ops) (t:=(t:Int)) (k:=(idx h.Txns (t:Int)).Ops.length);have h3:=ho.1;refine ⟨?_,?_,?_⟩
 ·unfold sM; split
  ·omega
  ·simp
 ·unfold vF; split
  ·omega
  ·simp
 ·rw [yV]
  intro x hx;unfold sM at hx
  split at hx
  ·unfold sK at hx
   rw [List.mem_flatMap] at hx
   obtain ⟨p,hp,hx⟩:=hx;have hp:p < _:=List.mem_range.1 hp;have hv:=(ho.2 p hp).2.2;have hb:=Fa ((idx (idx h.Txns (t:Int)).Ops (p:Int)).Kind - 4) (idx (idx h.Txns (t:Int)).Ops (p:Int)).Vals (tN (idx h.Txns (t:Int)).Ops (idx (idx h.Txns (t:Int)).Ops (p:Int)).Key p);unfold Bp at hx
   dsimp only at hx
   split at hx
   ·simp at hx
   ·split at hx
    ·simp at hx; subst hx; dsimp only; omega
    ·split at hx
     ·simp at hx; subst hx; dsimp only; omega
     ·simp at hx
  ·simp at hx
end Go.Proofs.YtfpeabnehpclnaaGreatT
namespace Go.Proofs.YtfpeabnehpclnaaGreatT
open Go Go.Proofs Go.Proofs.YtfpeabnehpclnaaGreatE
set_option linter.unusedVariables false
set_option linter.unusedSimpArgs false
def eG (h:History) (k:Nat):List Ask:=(List.range k).flatMap (fun t=>sM h ((t:Nat):Int))
def iU (h:History) (k:Nat):List gp:=(List.range k).flatMap (fun t=>vF h ((t:Nat):Int))
theorem xC {h:History} {k:Nat}:eG h (k + 1)=eG h k++sM h (k:Int):=by
 unfold eG; rw [List.range_succ,List.flatMap_append]; simp
theorem wD {h:History} {k:Nat}:iU h (k + 1)=iU h k++vF h (k:Int):=by
 unfold iU; rw [List.range_succ,List.flatMap_append]; simp
theorem zm {h:History} (hS:oh h):∀ k:Nat,k≤h.Txns.length→(eG h k).length≤16 * k∧(iU h k).length≤16 * k∧uV (eG h k) (fun x=>x.Base.length < 2 ^ 62):=by
 intro k
 induction k with
 | zero=>intro _; simp [eG,iU,uV]
 | succ k ih =>
  intro hk;obtain ⟨i1,i2,i3⟩:=ih (by omega);obtain ⟨b1,b2,b3⟩:=Bq (hS.txn k (by omega)).ops
  rw [xC,wD,List.length_append,List.length_append]
  refine ⟨by omega,by omega,?_⟩
  rw [yV] at i3 b3 ⊢
  intro x hx;rcases List.mem_append.1 hx with hx | hx
  ·exact i3 x hx
  ·exact b3 x hx
theorem Gc {h:History} (hs:wC h) (hS:oh h) (hc:aZ h=some 0):lM h=some (⟨eG h h.Txns.length,iU h h.Txns.length⟩,0):=by
 have a2:=hS.len;refine gI.1 ?_;unfold lM;refine dM hc ?_
 rw [bne_self_eq_false,cond_false]
 refine eZ (k0:=0) h.Txns.length (fun k s=>s=(eG h k,iU h k,(k:Int))) (Nat.zero_le _) rfl ?_;rintro k s hk rfl;have hw:w64 ((k:Int) + 1)=((k + 1:Nat):Int):=bN (by omega);obtain ⟨i1,i2,i3⟩:=zm hS k hk;unfold xe
 dsimp only
 refine aA (fun a1 => ?_) (fun a1 => ?_)
 ·have a0:k < h.Txns.length:=by omega
  refine ig (Jz a0 (hS.txn k a0).ops (by dsimp only; omega) (by dsimp only; omega)) (fun r hr => ?_);subst hr;refine aj ⟨a0,?_⟩
  dsimp only
  rw [hw,xC,wD]
 ·have:k=h.Txns.length:=by omega
  subst this;exact aK (aj rfl)
theorem Gd {h:History} (hs:wC h) (hS:oh h):fP h=some (eG h h.Txns.length,iU h h.Txns.length):=by
 have a2:=hS.len;refine gI.1 ?_;unfold fP;refine eZ (k0:=0) h.Txns.length (fun k s=>s=(eG h k,iU h k,(k:Int))) (Nat.zero_le _) rfl ?_;rintro k s hk rfl;have hw:w64 ((k:Int) + 1)=((k + 1:Nat):Int):=bN (by omega);obtain ⟨i1,i2,i3⟩:=zm hS k hk;unfold pI
 dsimp only
 refine aA (fun a1 => ?_) (fun a1 => ?_)
 ·have a0:k < h.Txns.length:=by omega
  have ho:=(hS.txn k a0).ops;obtain ⟨b1,b2,b3⟩:=Bq ho;refine dM (Gb a0 ho) ?_
  dsimp only
  refine ax (by omega) (ax (by omega) (aj ⟨a0,?_⟩))
  dsimp only
  rw [hw,xC,wD]
 ·have:k=h.Txns.length:=by omega
  subst this;exact aK (aj rfl)
end Go.Proofs.YtfpeabnehpclnaaGreatT
namespace Go.Proofs.YtfpeabnehpclnaaGreatT
open Go Go.Proofs Go.Proofs.YtfpeabnehpclnaaGreatE
set_option linter.unusedVariables false
set_option linter.unusedSimpArgs false
def qM (h:History) (t:Int) (key:Int):List Int:=tN (idx h.Txns t).Ops key (idx h.Txns t).Ops.length
theorem Gf {h:History} {t key:Int}:(qM h t key).length≤(idx h.Txns t).Ops.length:=uI
theorem Hy {x:Txn} {key:Int} (ho:x.Ops.length≤16):dU x key=some (tN x.Ops key x.Ops.length):=by
 refine gI.1 ?_;unfold dU;refine eZ (k0:=0) x.Ops.length (fun k s=>s=(tN x.Ops key k,(k:Int))) (Nat.zero_le _) rfl ?_;rintro k s hk rfl;have hw:w64 ((k:Int) + 1)=((k + 1:Nat):Int):=bN (by omega);have l3:=uI (ops:=x.Ops) (key:=key) (p:=k);have hn:k < x.Ops.length→tN x.Ops key (k + 1)=_:=fun hk=>wV hk;unfold uh qb qa
 dsimp only
 rw [hw]
 refine aA (fun a1 => ?_) (fun a1 => ?_)
 ·have a0:k < x.Ops.length:=by omega
  replace hn:=hn a0
  repeat' (first | contradiction | with_reducible refine aA (fun hq => ?_) (fun hq => ?_) | with_reducible refine ax (by first | omega | grind [bW]) ?_ | with_reducible refine aK ?_ | with_reducible refine cz ?_ | with_reducible refine dE ?_ | with_reducible refine dF ?_ | with_reducible refine dG ?_ | with_reducible refine aj ?_)
  all_goals (refine ⟨a0,?_⟩; dsimp only; grind)
 ·have:k=x.Ops.length:=by omega
  subst this
  repeat' (first | contradiction | with_reducible refine aA (fun hq => ?_) (fun hq => ?_) | with_reducible refine ax (by first | omega | grind [bW]) ?_ | with_reducible refine aK ?_ | with_reducible refine cz ?_ | with_reducible refine dE ?_ | with_reducible refine dF ?_ | with_reducible refine dG ?_ | with_reducible refine aj ?_)
  all_goals rfl
theorem Dx {h:History} {t key:Int} (ht:0≤t∧t < (h.Txns.length:Int)) (ho:(idx h.Txns t).Ops.length≤16):aX h t key=some (qM h t key):=by
 refine gI.1 ?_;unfold aX qM;generalize hx:(idx h.Txns t).Ops=ops at ho ⊢;refine eZ (k0:=0) ops.length (fun k s=>s=(tN ops key k,(k:Int))) (Nat.zero_le _) rfl ?_;rintro k s hk rfl;have hw:w64 ((k:Int) + 1)=((k + 1:Nat):Int):=bN (by omega);have l3:=uI (ops:=ops) (key:=key) (p:=k);have hn:k < ops.length→tN ops key (k + 1)=_:=fun hk=>wV hk;unfold nY kT kS fM
 simp only [hx,hw,Option.bind_some]
 refine ax ht ?_;refine aA (fun a1 => ?_) (fun a1 => ?_)
 ·have a0:k < ops.length:=by omega
  replace hn:=hn a0
  repeat' (first | contradiction | with_reducible refine aA (fun hq => ?_) (fun hq => ?_) | with_reducible refine ax (by first | omega | grind [bW]) ?_ | with_reducible refine aK ?_ | with_reducible refine cz ?_ | with_reducible refine dE ?_ | with_reducible refine dF ?_ | with_reducible refine dG ?_ | with_reducible refine aj ?_)
  all_goals (refine ⟨a0,?_⟩; dsimp only; grind)
 ·have:k=ops.length:=by omega
  subst this
  repeat' (first | contradiction | with_reducible refine aA (fun hq => ?_) (fun hq => ?_) | with_reducible refine ax (by first | omega | grind [bW]) ?_ | with_reducible refine aK ?_ | with_reducible refine cz ?_ | with_reducible refine dE ?_ | with_reducible refine dF ?_ | with_reducible refine dG ?_ | with_reducible refine aj ?_)
  all_goals rfl
theorem Hz {h:History} (hS:oh h) (hc:aZ h=some 0) {t key:Int}:gm h t key =
  some (if 0≤t∧t < (h.Txns.length:Int) then (qM h t key,decide (0 < (qM h t key).length)) else ([],false)):=by
 refine gI.1 ?_;unfold gm nR
 simp only [hc,Option.bind_some]
 by_cases ht:0≤t∧t < (h.Txns.length:Int)
 ·have h2:t=((t.toNat:Nat):Int):=by omega
  have ho:=(hS.txn t.toNat (by omega)).ops.1
  rw [← h2] at ho
  have hwt:=Hy (x:=idx h.Txns t) (key:=key) ho
  simp only [hwt,Option.bind_some]
  rw [if_pos ht]
  unfold qM
  repeat' (first | contradiction | with_reducible refine aA (fun hq => ?_) (fun hq => ?_) | with_reducible refine ax (by first | omega | grind [bW]) ?_ | with_reducible refine aK ?_ | with_reducible refine cz ?_ | with_reducible refine dE ?_ | with_reducible refine dF ?_ | with_reducible refine dG ?_ | with_reducible refine aj ?_)
  all_goals (first | omega | simp)
 ·rw [if_neg ht]
  repeat' (first | contradiction | with_reducible refine aA (fun hq => ?_) (fun hq => ?_) | with_reducible refine ax (by first | omega | grind [bW]) ?_ | with_reducible refine aK ?_ | with_reducible refine cz ?_ | with_reducible refine dE ?_ | with_reducible refine dF ?_ | with_reducible refine dG ?_ | with_reducible refine aj ?_)
  all_goals (first | omega | rfl | simp)
end Go.Proofs.YtfpeabnehpclnaaGreatT
namespace Go.Proofs.YtfpeabnehpclnaaGreatT
open Go Go.Proofs Go.Proofs.YtfpeabnehpclnaaGreatE
set_option linter.unusedVariables false
set_option linter.unusedSimpArgs false
def opAt (h:History) (t p:Int):Op:=idx (idx h.Txns t).Ops p
theorem IU {h:History} {n t p:Nat} (ht:t < n) (hp:p < (idx h.Txns (t:Int)).Ops.length):(yO h (opAt h (t:Int) (p:Int)),(t:Int)) ∈ tF h n:=by
 unfold tF Dv dI opAt
 rw [List.mem_flatMap]
 refine ⟨t,List.mem_range.2 ht,?_⟩
 rw [List.map_map,List.mem_map]
 refine ⟨idx (idx h.Txns (t:Int)).Ops (p:Int),?_,rfl⟩
 rw [eB (n:=p) rfl hp]
 exact List.getElem_mem _
theorem KX {L:List (Call×Int)} (h:qL [] L) {e f:Call×Int} (he:e ∈ L) (hf:f ∈ L) (hk:e.1.Key=f.1.Key):typ e.1.Kind=typ f.1.Kind:=by
 obtain ⟨i,hi,rfl⟩:=List.getElem_of_mem he;obtain ⟨j,hj,rfl⟩:=List.getElem_of_mem hf;rcases Nat.lt_trichotomy i j with hij | hij | hij
 ·have:=(h j hj).1 L[i] (by rw [List.nil_append]; exact List.mem_take_iff_getElem.2 ⟨i,by omega,rfl⟩) (by rw [eB (n:=j) rfl hj]; exact hk)
  rwa [eB (n:=j) rfl hj] at this
 ·subst hij; rfl
 ·have:=(h i hi).1 L[j] (by rw [List.nil_append]; exact List.mem_take_iff_getElem.2 ⟨j,by omega,rfl⟩) (by rw [eB (n:=i) rfl hi]; exact hk.symm)
  rw [eB (n:=i) rfl hi] at this
  exact this.symm
theorem KY {h:History} (hS:oh h) {t p t' p':Nat} (ht:t < h.Txns.length) (hp:p < (idx h.Txns (t:Int)).Ops.length) (ht':t' < h.Txns.length) (hp':p' < (idx h.Txns (t':Int)).Ops.length)
  (hk:(opAt h (t:Int) (p:Int)).Key=(opAt h (t':Int) (p':Int)).Key):typ (opAt h (t:Int) (p:Int)).Kind=typ (opAt h (t':Int) (p':Int)).Kind :=
 KX hS.ents (IU ht hp) (IU ht' hp') (by show idx h.Keys _=idx h.Keys _; rw [hk])
theorem Ff {h:History} (hS:oh h) {t p:Nat} (ht:t < h.Txns.length) (hp:p < (idx h.Txns (t:Int)).Ops.length):1≤(opAt h (t:Int) (p:Int)).Kind∧(opAt h (t:Int) (p:Int)).Kind≤8:=by
 obtain ⟨h1,h2⟩:=(hS.txn t ht).ops;have:=h2 p hp;exact ⟨this.1,this.2.1⟩
theorem JA {h:History} (hS:oh h) (hc:aZ h=some 0) {key:Int} {t0 p0:Nat} (a2:t0 < h.Txns.length) (a3:p0 < (idx h.Txns (t0:Int)).Ops.length) (a4:(opAt h (t0:Int) (p0:Int)).Key=key) :
  fw h key=some (typ (opAt h (t0:Int) (p0:Int)).Kind):=by
 have a9:=hS.len;refine gI.1 ?_;unfold fw;refine dM hc ?_
 rw [bne_self_eq_false,cond_false]
 refine eZ (k0:=0) h.Txns.length (fun k s=>s=(k:Int)∧∀ t p:Nat,t < k→p < (idx h.Txns (t:Int)).Ops.length→(opAt h (t:Int) (p:Int)).Key≠key) (Nat.zero_le _) ⟨rfl,fun t p h=>absurd h (Nat.not_lt_zero _)⟩ ?_;rintro k s hk ⟨rfl,hno⟩;have hw:w64 ((k:Int) + 1)=((k + 1:Nat):Int):=bN (by omega);unfold vO;refine aA (fun a7 => ?_) (fun a7 => ?_)
 ·have a0:k < h.Txns.length:=by omega
  refine ax (by omega) ?_;have b0:=(hS.txn k a0).ops.1;refine eZ (k0:=0) (idx h.Txns (k:Int)).Ops.length (fun m s=>s=(m:Int)∧∀ p:Nat,p < m→(opAt h (k:Int) (p:Int)).Key≠key) (Nat.zero_le _) ⟨rfl,fun p h=>absurd h (Nat.not_lt_zero _)⟩ ?_;rintro m s hm ⟨rfl,a5⟩;have a6:w64 ((m:Int) + 1)=((m + 1:Nat):Int):=bN (by omega);unfold vN
  dsimp only
  rw [hw,a6]
  refine aA (fun a8 => ?_) (fun a8 => ?_)
  ·have a1:m < (idx h.Txns (k:Int)).Ops.length:=by omega
   refine ax (by omega) ?_;refine aA (fun he => ?_) (fun he => ?_)
   ·obtain ⟨k1,k2⟩:=Ff hS a0 a1;refine dM (yQ k1 k2) (aK (aK (aj ?_)));exact KY hS a0 a1 a2 a3 ((show (opAt h (k:Int) (m:Int)).Key=key from he).trans a4.symm)
   ·refine aj ⟨a1,rfl,fun p hp => ?_⟩;rcases Nat.lt_or_ge p m with h1 | h1
    ·exact a5 p h1
    ·have:p=m:=by omega
     subst this;exact he
  ·have:m=(idx h.Txns (k:Int)).Ops.length:=by omega
   subst this;refine aK (aj ⟨a0,rfl,fun t p ht hp => ?_⟩);rcases Nat.lt_or_ge t k with h1 | h1
   ·exact hno t p h1 hp
   ·have:t=k:=by omega
    subst this;exact a5 p hp
 ·have:k=h.Txns.length:=by omega
  subst this;exact absurd a4 (hno t0 p0 a2 a3)
end Go.Proofs.YtfpeabnehpclnaaGreatT
namespace Go.Proofs.YtfpeabnehpclnaaGreatT
open Go Go.Proofs Go.Proofs.YtfpeabnehpclnaaGreatE
set_option linter.unusedVariables false
set_option linter.unusedSimpArgs false
def NQ (h:History) (key ty:Int):Prop:=∀ t p:Nat,t < h.Txns.length→p < (idx h.Txns (t:Int)).Ops.length→(opAt h (t:Int) (p:Int)).Key=key→typ (opAt h (t:Int) (p:Int)).Kind=ty
structure Nr (h:History) (a:Ask) (t p:Nat):Prop where
 tl:t < h.Txns.length
 pl:p < (idx h.Txns (t:Int)).Ops.length
 e1:a.Txn=(t:Int)
 e2:a.Place=(p:Int)
 e3:a.Key=(opAt h (t:Int) (p:Int)).Key
 rd:5≤(opAt h (t:Int) (p:Int)).Kind
 b64:a.Base.length≤64
 b4:typ (opAt h (t:Int) (p:Int)).Kind=4→a.Base.length=1
 b3:typ (opAt h (t:Int) (p:Int)).Kind=3→a.Base.Nodup
theorem EE {s:List Int} (h:Asc s):s.Nodup:=by
 exact (zl.1 h).imp (fun h=>by omega)
theorem KZ {h:History} (hS:oh h) {a:Ask} (ha:a ∈ eG h h.Txns.length):∃ t p,Nr h a t p:=by
 unfold eG at ha;obtain ⟨t,ht,ha⟩:=List.mem_flatMap.1 ha;have ht:=List.mem_range.1 ht;unfold sM at ha
 split at ha
 case isFalse=>cases ha
 case isTrue hst =>
 unfold sK at ha;obtain ⟨p,hp,ha⟩:=List.mem_flatMap.1 ha;have hp:=List.mem_range.1 hp;refine ⟨t,p,?_⟩;obtain ⟨k1,k8⟩:=Ff hS ht hp;obtain ⟨_,_,_,_,_,hcs⟩:=hS.txn t ht;have hc:=hcs p (by simpa [zS,dI] using hp)
 dsimp only [zS,dI] at hc
 rw [zo hp] at hc
 unfold sJ yO at hc
 dsimp only at hc
 unfold Bp at ha
 dsimp only at ha
 have ho:idx (idx h.Txns (t:Int)).Ops (p:Int)=opAt h (t:Int) (p:Int):=rfl
 rw [ho] at ha hc
 generalize opAt h (t:Int) (p:Int)=o at ha hc k1 k8 ho;obtain ⟨c1,c8,c3,c4,c5,c6⟩:=hc;have hoo:opAt h (t:Int) (p:Int)=o:=ho
 split at ha
 ·cases ha
 ·rename_i h4
  obtain ⟨d1,d2,d3,d4⟩:=c6 (by omega);have hg:o.Got=true:=d2.2 hst;obtain ⟨f1,f2,f3,f4⟩:=d4 hg
  split at ha
  ·rw [List.mem_singleton] at ha
   subst ha;exact ⟨ht,hp,rfl,rfl,by rw [hoo],by rw [hoo]; omega,f4,fun h=>f2 (by rw [hoo] at h; unfold typ at h; omega),fun h=>EE (f3 (by rw [hoo] at h; unfold typ at h; omega))⟩
  ·split at ha
   ·rename_i hb
    rw [List.mem_singleton] at ha
    subst ha;obtain ⟨hb,h5⟩:=hb;refine ⟨ht,hp,rfl,rfl,by rw [hoo],by rw [hoo]; omega,?_,fun h => ?_,fun h => ?_⟩
    ·dsimp only
     unfold before;have:=List.length_filter_le (fun x=>decide (x ∉ tN (idx h.Txns (t:Int)).Ops o.Key p)) o.Vals
     split
     ·simp
     ·split
      ·simp
      ·split
       ·split
        ·simp; omega
        ·simp
       ·split
        ·split
         ·dsimp only; omega
         ·simp
        ·simp
    ·have h8:o.Kind=8:=by rw [hoo] at h; unfold typ at h; omega
     dsimp only
     unfold before at hb ⊢
     rw [h8] at hb ⊢
     split at hb
     ·cases hb
     ·rename_i hq
      rw [if_neg hq]
      simp
    ·have h7:o.Kind=7:=by rw [hoo] at h; unfold typ at h; omega
     have hnd:=EE (f3 h7)
     dsimp only
     unfold before
     rw [h7]
     split
     ·simp
     ·simp only [show ¬ ((7:Int) - 4=1) by omega,show ¬ ((7:Int) - 4=2) by omega,if_false]
      split
      ·split
       ·exact hnd.filter _
       ·simp
      ·rename_i h0
       exact absurd (show (7:Int) - 4=3 by omega) h0
   ·cases ha
end Go.Proofs.YtfpeabnehpclnaaGreatT
namespace Go.Proofs.YtfpeabnehpclnaaGreatT
open Go Go.Proofs Go.Proofs.YtfpeabnehpclnaaGreatE
set_option linter.unusedVariables false
set_option linter.unusedSimpArgs false
structure Parts (O:List Int) (W:Int→List Int):Prop where
 ne:∀ t ∈ O,0 < (W t).length
 ap:∀ t ∈ O,∀ u ∈ O,∀ v,v ∈ W t→v ∈ W u→t=u
 nd:∀ t ∈ O,(W t).Nodup
 ol:O.length≤32
 wl:∀ t ∈ O,(W t).length≤16
 pos:∀ t ∈ O,0≤t
section
variable {O:List Int} {W:Int→List Int}
theorem tQ {l:List Int} {j:Nat} (hj:j < l.length):idx l (j:Int) ∈ l:=by rw [eB (n:=j) rfl hj]; exact List.getElem_mem _
theorem IV {l:List Int} {t:Int} (h:t ∈ l):∃ j:Nat,j < l.length∧idx l (j:Int)=t:=by
 obtain ⟨j,hj,e⟩:=List.getElem_of_mem h;exact ⟨j,hj,(eB rfl hj).trans e⟩
theorem Gg {p s:List Int} (hp:p <+: s) (h0:0 < p.length):idx p 0=idx s 0:=by
 obtain ⟨r,rfl⟩:=hp;exact (jH (j:=0) h0).symm
theorem HV (hP:Parts O W) {rest:List Int} {t u:Int} (ht:t ∈ O) (hu:u ∈ O) (h1:idx (W t) 0=idx rest 0) (h2:idx (W u) 0=idx rest 0):t=u:=by
 have e1:=hP.ne t ht;have e2:=hP.ne u hu;refine hP.ap t ht u hu (idx rest 0) ?_ ?_
 ·rw [← h1]; exact tQ (j:=0) e1
 ·rw [← h2]; exact tQ (j:=0) e2
end
end Go.Proofs.YtfpeabnehpclnaaGreatT
namespace Go.Proofs.YtfpeabnehpclnaaGreatT
open Go Go.Proofs Go.Proofs.YtfpeabnehpclnaaGreatE
set_option linter.unusedVariables false
set_option linter.unusedSimpArgs false
def Stp (O:List Int) (W:Int→List Int) (rest l:List Int):Option (Option Int)→Prop
 | none=>rest.length=0
 | some none=>0 < rest.length∧∀ t ∈ O,W t <+: rest→t ∈ l
 | some (some t)=>0 < rest.length∧t ∈ O∧W t <+: rest∧t ∉ l
section
variable {O:List Int} {W:Int→List Int} {rest l:List Int}
theorem Stp.det (hP:Parts O W) {x y:Option (Option Int)} (hx:Stp O W rest l x) (hy:Stp O W rest l y):x=y:=by
 match x,y,hx,hy with
 | none,none,_,_=>rfl
 | none,some none,h1,h2=>exact absurd (show rest.length=0 from h1) (by have:0 < rest.length:=h2.1; omega)
 | none,some (some t),h1,h2=>exact absurd (show rest.length=0 from h1) (by have:0 < rest.length:=h2.1; omega)
 | some none,none,h1,h2=>exact absurd (show rest.length=0 from h2) (by have:0 < rest.length:=h1.1; omega)
 | some (some t),none,h1,h2=>exact absurd (show rest.length=0 from h2) (by have:0 < rest.length:=h1.1; omega)
 | some none,some none,_,_=>rfl
 | some none,some (some t),h1,h2=>exact absurd (h1.2 t h2.2.1 h2.2.2.1) h2.2.2.2
 | some (some t),some none,h1,h2=>exact absurd (h2.2 t h1.2.1 h1.2.2.1) h1.2.2.2
 | some (some t),some (some u),h1,h2 =>
  rw [HV hP h1.2.1 h2.2.1 (Gg h1.2.2.1 (hP.ne t h1.2.1)) (Gg h2.2.2.1 (hP.ne u h2.2.1))]
end
end Go.Proofs.YtfpeabnehpclnaaGreatT
namespace Go.Proofs.YtfpeabnehpclnaaGreatT
open Go Go.Proofs Go.Proofs.YtfpeabnehpclnaaGreatE
set_option linter.unusedVariables false
set_option linter.unusedSimpArgs false
section
variable {O:List Int} {W:Int→List Int} {rest l:List Int}
end
end Go.Proofs.YtfpeabnehpclnaaGreatT
namespace Go.Proofs.YtfpeabnehpclnaaGreatT
open Go Go.Proofs Go.Proofs.YtfpeabnehpclnaaGreatE
set_option linter.unusedVariables false
set_option linter.unusedSimpArgs false
theorem CQ {l:List Int}:∀ {m:List Int},l.Nodup→(∀ x ∈ l,x ∈ m)→l.length≤m.length:=by
 induction l with
 | nil=>intro m _ _; simp
 | cons x l ih =>
  intro m hn hs;obtain ⟨h1,h2⟩:=List.nodup_cons.1 hn;have hx:=hs x (by simp);have:=ih (m:=m.erase x) h2 (fun y hy=>(List.mem_erase_of_ne (fun (e:y=x)=>h1 (e ▸ hy))).2 (hs y (by simp [hy])))
  rw [List.length_erase_of_mem hx] at this
  have:0 < m.length:=List.length_pos_of_mem hx
  simp
  omega
def cnt (base w:List Int):Nat:=(w.filter (fun v=>decide (v ∈ base))).length
def Whole (O:List Int) (W:Int→List Int) (base:List Int):Prop:=(∀ t ∈ O,cnt base (W t)=0∨cnt base (W t)=(W t).length)∧∀ v ∈ base,∃ t ∈ O,v ∈ W t
def NR (O:List Int) (W:Int→List Int) (base:List Int):List Int:=O.filter (fun t=>decide (0 < cnt base (W t)))
def Fg (O:List Int) (W:Int→List Int) (base:List Int) (r:List Int×Bool):Prop:=(r=(NR O W base,true)∧Whole O W base)∨(r=([],false) ∧ ¬ Whole O W base)
theorem Fg.det {O:List Int} {W:Int→List Int} {base:List Int} {r s:List Int×Bool} (h1:Fg O W base r) (h2:Fg O W base s):r=s:=by
 rcases h1 with ⟨rfl,h1⟩ | ⟨rfl,h1⟩ <;> rcases h2 with ⟨rfl,h2⟩ | ⟨rfl,h2⟩
 ·rfl
 ·exact absurd h1 h2
 ·exact absurd h2 h1
 ·rfl
section
variable {O:List Int} {W:Int→List Int} {base:List Int}
end
end Go.Proofs.YtfpeabnehpclnaaGreatT
namespace Go.Proofs.YtfpeabnehpclnaaGreatT
open Go Go.Proofs Go.Proofs.YtfpeabnehpclnaaGreatE
set_option linter.unusedVariables false
set_option linter.unusedSimpArgs false
section
variable {O:List Int} {W:Int→List Int} {base:List Int}
end
end Go.Proofs.YtfpeabnehpclnaaGreatT
namespace Go.Proofs.YtfpeabnehpclnaaGreatT
open Go Go.Proofs Go.Proofs.YtfpeabnehpclnaaGreatE
set_option linter.unusedVariables false
set_option linter.unusedSimpArgs false
def Fh (s:Int) (w:List Int):Int:=w.foldl (fun x v=>w64 (x + v)) s
theorem EF {s:Int} {w:List Int} {k:Nat} (hk:k < w.length):Fh s (w.take (k + 1))=w64 (Fh s (w.take k) + idx w (k:Int)):=by
 unfold Fh
 rw [List.take_succ_eq_append_getElem hk,List.foldl_append,(eB (n:=k) rfl hk:idx w (k:Int)=w[k])]
 rfl
section
variable {O:List Int} {W:Int→List Int} {want:Int}
def picks (O:List Int) (f:Nat→Prop) [DecidablePred f] (k:Nat):List Int:=((List.range k).filter (fun j=>decide (f j))).map (fun j:Nat=>idx O (j:Int))
end
end Go.Proofs.YtfpeabnehpclnaaGreatT
namespace Go.Proofs.YtfpeabnehpclnaaGreatT
open Go Go.Proofs Go.Proofs.YtfpeabnehpclnaaGreatE
set_option linter.unusedVariables false
set_option linter.unusedSimpArgs false
theorem wbm (x:Int):w64 x=Int.bmod x 18446744073709551616:=by
 unfold w64 IntKind.wrap
 simp only [IntKind.bits,IntKind.signed,Bool.true_and,Int.bmod_def]
 have h1:(2 ^ 64:Int)=18446744073709551616:=by decide
 have h2:=Int.emod_nonneg x (show (18446744073709551616:Int)≠0 by decide);have h3:=Int.emod_lt_of_pos x (show (0:Int) < 18446744073709551616 by decide)
 simp only [h1]
 by_cases h:x % 18446744073709551616 < 9223372036854775808
 ·rw [if_neg (by simp; omega),if_pos (by simp; omega)]
  rfl
 ·rw [if_pos (by simp; omega),if_neg (by simp; omega)]
  rfl
theorem Od (x y:Int):w64 (w64 x + y)=w64 (x + y):=by rw [wbm,wbm,wbm,Int.bmod_add_bmod]
theorem EG:∀ (w:List Int) (s:Int),Fh (w64 s) w=w64 (s + w.sum)
 | [],s=>by simp [Fh]
 | v::w,s=>by
  show Fh (w64 (w64 s + v)) w=_
  rw [Od,EG w,List.sum_cons,Int.add_assoc]
theorem EH (w:List Int):Fh 0 w=w64 w.sum:=by
 have h:=EG w 0
 rw [Int.zero_add] at h
 exact h
section
variable {O:List Int} {W:Int→List Int} {want:Int}
end
end Go.Proofs.YtfpeabnehpclnaaGreatT
namespace Go.Proofs.YtfpeabnehpclnaaGreatT
open Go Go.Proofs Go.Proofs.YtfpeabnehpclnaaGreatE
set_option linter.unusedVariables false
set_option linter.unusedSimpArgs false
section
variable {O:List Int} {W:Int→List Int}
end
end Go.Proofs.YtfpeabnehpclnaaGreatT
namespace Go.Proofs.YtfpeabnehpclnaaGreatT
open Go Go.Proofs Go.Proofs.YtfpeabnehpclnaaGreatE
set_option linter.unusedVariables false
set_option linter.unusedSimpArgs false
section
variable {O:List Int} {W:Int→List Int}
end
end Go.Proofs.YtfpeabnehpclnaaGreatT
namespace Go.Proofs.YtfpeabnehpclnaaGreatT
open Go Go.Proofs Go.Proofs.YtfpeabnehpclnaaGreatE
set_option linter.unusedVariables false
set_option linter.unusedSimpArgs false
theorem Gh {l:List Ask} {j:Nat} (hj:j < l.length):idx l (j:Int) ∈ l:=by rw [eB (n:=j) rfl hj]; exact List.getElem_mem _
section
variable {h:History}
end
end Go.Proofs.YtfpeabnehpclnaaGreatT
namespace Go.Proofs.YtfpeabnehpclnaaGreatT
open Go Go.Proofs Go.Proofs.YtfpeabnehpclnaaGreatE
set_option linter.unusedVariables false
set_option linter.unusedSimpArgs false
end Go.Proofs.YtfpeabnehpclnaaGreatT
namespace Go.Proofs.YtfpeabnehpclnaaGreatT
open Go Go.Proofs Go.Proofs.YtfpeabnehpclnaaGreatE
set_option linter.unusedVariables false
set_option linter.unusedSimpArgs false
end Go.Proofs.YtfpeabnehpclnaaGreatT
namespace Go.Proofs.YtfpeabnehpclnaaGreatT
open Go Go.Proofs Go.Proofs.YtfpeabnehpclnaaGreatE
set_option linter.unusedVariables false
set_option linter.unusedSimpArgs false
section
variable {h:History}
end
end Go.Proofs.YtfpeabnehpclnaaGreatT
