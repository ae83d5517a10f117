import Derived.Test.YtmfgddafcgflaaaGreatTD
import Derived.Test.YtmfgddafcgflaaaGreatXC
import Derived.Test.YtmfgddafcgflaaaGreatY
import Derived.Test.YtmfgddafcgflaaaGreatTF
namespace Go.Proofs.YtmfgddafcgflaaaGreatT
open Go Go.Proofs Go.Proofs.YtmfgddafcgflaaaGreatE
set_option linter.unusedVariables false
set_option linter.unusedSimpArgs false
def Upm {S Ω:Type} (n k:Nat) (J:Nat→S→Prop) (Q:Ω→Prop):S ⊕ Ω→Prop
 | .inl s'=>k < n∧J (k + 1) s'
 | .inr o=>Q o
theorem dB {S Ω:Type} {step:S→Option (S ⊕ Ω)} {Q:Ω→Prop} (n:Nat) (J:Nat→S→Prop) {s0:S} {k0:Nat} (a1:k0≤n) (h0:J k0 s0)
  (hs:∀ (k:Nat) (s:S),k≤n→J k s→Tri (step s) (Upm n k J Q)):Tri (iter step s0) Q:=by
 generalize hd:n - k0=d
 induction d using Nat.strongRecOn generalizing k0 s0 with
 | ind d ih =>
  obtain ⟨x,hx,hr⟩:=hs k0 s0 a1 h0
  rw [yT,hx]
  cases x with
  | inl s'=>exact ih (n - (k0 + 1)) (by have:=hr.1; omega) (k0:=k0 + 1) (by have:=hr.1; omega) hr.2 rfl
  | inr o=>exact ⟨o,rfl,hr⟩
def Asc (s:List Int):Prop:=∀ k:Nat,k + 1 < s.length→idx s (k:Int) < idx s ((k + 1:Nat):Int)
instance (s:List Int):Decidable (Asc s):=by
 unfold Asc;exact decidable_of_iff (∀ k,k < s.length→k + 1 < s.length→idx s (k:Int) < idx s ((k + 1:Nat):Int)) ⟨fun h k hk=>h k (by omega) hk,fun h k _ hk=>h k hk⟩
theorem gy {s:List Int} {k:Nat} (h:k < s.length):idx s (k:Int)=s[k]:=dV rfl h
theorem vg {s:List Int}:Asc s↔s.Pairwise (· < ·):=by
 rw [List.pairwise_iff_getElem]
 constructor
 ·intro h i j hi hj hij
  induction j with
  | zero=>omega
  | succ j ih =>
   have h1:=h j hj
   rw [gy (by omega),gy hj] at h1
   rcases Nat.lt_or_ge i j with h2 | h2
   ·exact Int.lt_trans (ih (by omega) h2) h1
   ·have:i=j:=by omega
    subst this;exact h1
 ·intro h k hk
  rw [gy (by omega),gy hk]
  exact h k (k + 1) (by omega) hk (by omega)
def SOk (t:Int) (s:List Int):Bool:=(t == 1 && decide (s.length≤1)) || (t == 2 && decide (s.length≤64)) || (t == 3 && decide (Asc s) && decide (s.length≤64)) || (t == 4 && s.length == 1)
def chk (t:Int) (s:List Int):Int:=if 1≤t∧t≤4 then (if SOk t s then 0 else 80) else 1
theorem nW {k:Nat} (h:k < 2 ^ 62) (h1:1≤k):w64 ((k:Int) - 1)=((k - 1:Nat):Int):=by
 rw [rM (by omega) (by omega)]; omega
theorem za {s:List Int} (hs:s.length < 2 ^ 62):eU () s=some (decide (Asc s) && decide (s.length≤64)):=by
 unfold eU;refine gN.1 ?_;refine dB (k0:=1) (s.length + 1) (fun k x=>x=(k:Int)∧1≤k∧∀ j:Nat,j + 1 < k→j + 1 < s.length→idx s (j:Int) < idx s ((j + 1:Nat):Int)) (by omega) ⟨rfl,Nat.le_refl _,fun j h=>by omega⟩ ?_
 rintro k x hk ⟨rfl,a1,hJ⟩;unfold mU;refine ja (fun h => ?_) (fun h => ?_)
 ·have h:(k:Int) < s.length:=of_decide_eq_true h;have e:=nW (k:=k) (by omega) a1;refine ai (by rw [e]; omega) (ai (by omega) (ja (fun h2 => ?_) (fun h2 => ?_)))
  ·have h2:idx s (k:Int)≤idx s (w64 ((k:Int) - 1)):=of_decide_eq_true h2
   rw [e] at h2
   refine aI (ah ?_)
   show false=_
   have hn:¬ Asc s:=by
    intro hA;have:=hA (k - 1) (by omega)
    rw [show k - 1 + 1=k by omega] at this
    omega
   simp [hn]
  ·have h2:¬ idx s (k:Int)≤idx s (w64 ((k:Int) - 1)):=of_decide_eq_false h2
   rw [e] at h2
   refine ⟨_,rfl,by omega,aX (by omega),by omega,fun j hj hl => ?_⟩
   rcases Nat.lt_or_ge (j + 1) k with h3 | h3
   ·exact hJ j h3 hl
   ·have:j=k - 1:=by omega
    subst this
    rw [show k - 1 + 1=k by omega]
    omega
 ·have h:¬ (k:Int) < s.length:=of_decide_eq_false h;refine aI (ah ?_)
  show decide ((s.length:Int)≤64)=_
  have hA:Asc s:=fun j hj=>hJ j (by omega) hj
  simp only [hA,decide_true,Bool.true_and]
  congr 1
  exact propext ⟨fun h=>by omega,fun h=>by omega⟩
theorem Ad {t:Int} {s:List Int} (h:1≤t∧t≤4):chk t s=if SOk t s then 0 else 80:=if_pos h
theorem four {t:Int} (h:1≤t∧t≤4):t=1∨t=2∨t=3∨t=4:=by omega
theorem Kn {s:List Int} {n:Nat}:decide ((s.length:Int)≤(n:Int))=decide (s.length≤n):=by
 congr 1
 exact propext ⟨fun h=>by omega,fun h=>by omega⟩
theorem AB {t:Int} (h:¬ (1≤t∧t≤4)):jf t=some (-1):=by
 have e1:(t == 1)=false:=by rw [beq_eq_false_iff_ne]; omega
 have e2:(t == 2)=false:=by rw [beq_eq_false_iff_ne]; omega
 have e3:(t == 3)=false:=by rw [beq_eq_false_iff_ne]; omega
 have e4:(t == 4)=false:=by rw [beq_eq_false_iff_ne]; omega
 simp [jf,e1,e2,e3,e4]
theorem xJ (t:Int) {s:List Int} (hs:s.length < 2 ^ 62):jh t s=some (chk t s):=by
 by_cases ht:1≤t∧t≤4
 ·rw [Ad ht]
  rcases four ht with rfl | rfl | rfl | rfl
  ·have:=Kn (s:=s) (n:=1)
   simp only [Int.cast_ofNat_Int] at this
   simp [jh,jf,jg,SOk]
   by_cases h:s.length≤1
   ·have h':(s.length:Int)≤1:=by omega
    simp [h,h']
   ·have h':¬ (s.length:Int)≤1:=by omega
    simp [h,h']
  ·simp [jh,jf,lC,SOk]
   by_cases h:s.length≤64
   ·have h':(s.length:Int)≤64:=by omega
    simp [h,h']
   ·have h':¬ (s.length:Int)≤64:=by omega
    simp [h,h']
  ·simp [jh,jf,za hs,SOk]
   by_cases h:Asc s <;> by_cases h':s.length≤64 <;> simp [h,h']
  ·simp [jh,jf,jB,SOk]
   by_cases h:s.length=1
   ·have h':(s.length:Int)=1:=by omega
    simp [h,h']
   ·have h':((s.length:Int) == 1)=false:=by rw [beq_eq_false_iff_ne]; omega
    simp [h,h']
 ·rw [chk,if_neg ht]
  simp [jh,AB ht]
theorem AC {s:List Int} (hs:s.length < 2 ^ 62):iter (jo s) (decide ((s.length:Int)≤64),1)=some (if decide (Asc s) && decide (s.length≤64) then 0 else 80):=by
 refine gN.1 ?_;refine dB (k0:=1) (s.length + 1) (fun k x=>x.2=(k:Int)∧1≤k∧(x.1=true↔s.length≤64∧∀ j:Nat,j + 1 < k→j + 1 < s.length→idx s (j:Int) < idx s ((j + 1:Nat):Int))) (by omega)
  ⟨rfl,Nat.le_refl _,⟨fun h=>⟨by have:=of_decide_eq_true h; omega,fun j hj=>by omega⟩,fun h=>decide_eq_true (by omega)⟩⟩ ?_
 rintro k ⟨b,x⟩ hk ⟨hx,a1,hJ⟩;have hx:x=(k:Int):=hx;subst hx;unfold jo;refine ja (fun h => ?_) (fun h => ?_)
 ·have h:(k:Int) < s.length:=of_decide_eq_true h;have e:=nW (k:=k) (by omega) a1;refine ja (fun hb => ?_) (fun hb => ?_)
  ·have hb':=hJ.1 hb;refine ai (by rw [e]; omega) (ai (by omega) ⟨_,rfl,by omega,aX (by omega),by omega,?_⟩)
   show decide _=true↔_
   rw [e,decide_eq_true_iff]
   constructor
   ·intro h2;refine ⟨hb'.1,fun j hj hl => ?_⟩;rcases Nat.lt_or_ge (j + 1) k with h3 | h3
    ·exact hb'.2 j h3 hl
    ·have:j=k - 1:=by omega
     subst this
     rw [show k - 1 + 1=k by omega]
     omega
   ·rintro ⟨_,h2⟩;have:=h2 (k - 1) (by omega) (by omega)
    rw [show k - 1 + 1=k by omega] at this
    omega
  ·refine ⟨_,rfl,by omega,aX (by omega),by omega,?_⟩
   show false=true↔_
   constructor
   ·intro h; cases h
   ·rintro ⟨h1,h2⟩;have:=hJ.2 ⟨h1,fun j hj=>h2 j (by omega)⟩;have hb:b=false:=hb
    rw [hb] at this
    cases this
 ·have h:¬ (k:Int) < s.length:=of_decide_eq_false h;refine aI ?_;have hb:b=(decide (Asc s) && decide (s.length≤64)):=by
   rw [Bool.eq_iff_iff,hJ]
   simp only [Bool.and_eq_true,decide_eq_true_eq]
   exact ⟨fun h=>⟨fun j hj=>h.2 j (by omega) hj,h.1⟩,fun h=>⟨h.2,fun j _ hj=>h.1 j hj⟩⟩
  unfold dE
  rw [← hb]
  cases b
  ·exact ⟨_,rfl,rfl⟩
  ·exact ⟨_,rfl,rfl⟩
theorem zb (t:Int) {s:List Int} (hs:s.length < 2 ^ 62):aH t s=some (chk t s):=by
 by_cases ht:1≤t∧t≤4
 ·rw [Ad ht]
  rcases four ht with rfl | rfl | rfl | rfl
  ·simp [aH,dF,dE,SOk]
   by_cases h:s.length≤1
   ·have h':(s.length:Int)≤1:=by omega
    simp [h,h']
   ·have h':¬ (s.length:Int)≤1:=by omega
    simp [h,h']
  ·simp [aH,dF,dE,SOk]
   by_cases h:s.length≤64
   ·have h':(s.length:Int)≤64:=by omega
    simp [h,h']
   ·have h':¬ (s.length:Int)≤64:=by omega
    simp [h,h']
  ·simp [aH,dF]
   have:=AC hs
   simp at this
   rw [this]
   simp [SOk]
  ·simp [aH,dF,dE,SOk]
   by_cases h:s.length=1
   ·have h':(s.length:Int)=1:=by omega
    simp [h,h']
   ·have h':((s.length:Int) == 1)=false:=by rw [beq_eq_false_iff_ne]; omega
    simp [h,h']
 ·rw [chk,if_neg ht]
  by_cases h1:t < 1
  ·simp [aH,dF,h1]
  ·have:t > 4:=by omega
   simp [aH,dF,h1,this]
def lb (s:List Int) (a:Int):Nat:=s.findIdx (fun x=>decide (a≤x))
def hit (s:List Int) (a:Int):Bool:=decide (lb s a < s.length) && (idx s (lb s a:Int) == a)
def ins (s:List Int) (a:Int):List Int:=s.take (lb s a)++((if hit s a then [] else [a])++s.drop (lb s a))
theorem FH (s:List Int) (a:Int):lb s a≤s.length:=List.findIdx_le_length
theorem JU {s:List Int} {a:Int} {k:Nat} (h:k < lb s a):idx s (k:Int) < a:=by
 have h1:k < s.length:=Nat.lt_of_lt_of_le h (FH s a)
 rw [gy h1]
 have:=List.not_of_lt_findIdx (p:=fun x=>decide (a≤x)) (xs:=s) h
 simpa using this
theorem JV {s:List Int} {a:Int} (h:lb s a < s.length):a≤idx s (lb s a:Int):=by
 rw [gy h]
 have:=List.findIdx_getElem (p:=fun x=>decide (a≤x)) (xs:=s) (w:=h);exact of_decide_eq_true this
theorem Jl {s:List Int} {a:Int} {i:Nat} (hi:i≤s.length) (h1:∀ k:Nat,k < i→idx s (k:Int) < a) (h2:i < s.length→a≤idx s (i:Int)):lb s a=i:=by
 rcases Nat.lt_trichotomy (lb s a) i with h | h | h
 ·have:=JV (s:=s) (a:=a) (by omega);have:=h1 _ h
  omega
 ·exact h
 ·have h3:=JU h;have:=h2 (by have:=FH s a; omega)
  omega
theorem Im {i j:Nat} (hi:i < 2 ^ 62) (hj:j < 2 ^ 62):w64 (qC .u64 (IntKind.wrap .u64 (w64 ((i:Int) + (j:Int)))) (1:Int))=(((i + j) / 2:Nat):Int):=by
 have e1:w64 ((i:Int) + (j:Int))=((i + j:Nat):Int):=by rw [rM (by omega) (by omega)]; omega
 rw [e1,wrap_u64 (by omega),Gj (n:=1) (i:=(1:Int)) rfl (by omega),rM (by omega) (by omega)]
 simp [Nat.shiftRight_eq_div_pow]
theorem EA (a b:Int):kX a b=some (decide (a < b)):=by simp [kX,ko]
theorem BG {s:List Int} (a:Int) (hA:Asc s) (hs:s.length < 2 ^ 62):bu s a=some ((lb s a:Int),hit s a):=by
 unfold bu;refine gN.1 ?_;have hP:=List.pairwise_iff_getElem.1 (vg.1 hA);have hmono:∀ p q:Nat,p≤q→q < s.length→idx s (p:Int)≤idx s (q:Int):=by
  intro p q hpq hq;rcases Nat.lt_or_ge p q with h | h
  ·rw [gy (by omega),gy hq]
   exact Int.le_of_lt (hP p q (by omega) hq h)
  ·have:p=q:=by omega
   subst this;exact Int.le_refl _
 refine wX (fun x:Int×Int=>∃ i j:Nat,x=((i:Int),(j:Int))∧i≤j∧j≤s.length∧(∀ k:Nat,k < i→idx s (k:Int) < a)∧(j < s.length→a≤idx s (j:Int))) (fun x=>x.2.toNat - x.1.toNat)
  ⟨0,s.length,rfl,by omega,by omega,fun k h=>by omega,fun h=>by omega⟩ ?_
 rintro _ ⟨i,j,rfl,hij,hj,h1,h2⟩;unfold gU;refine ja (fun h => ?_) (fun h => ?_)
 ·have h:(i:Int) < j:=of_decide_eq_true h;have e:=Im (i:=i) (j:=j) (by omega) (by omega)
  rw [e]
  refine ai (by decide) (ai (by omega) ?_)
  rw [EA]
  show Tri (bif decide _ then _ else _) _
  have hm:(i + j) / 2 < j:=by omega
  have a1:i≤(i + j) / 2:=by omega
  generalize (i + j) / 2=m at hm a1;refine ja (fun h3 => ?_) (fun h3 => ?_)
  ·have h3:idx s (m:Int) < a:=of_decide_eq_true h3;refine ⟨_,rfl,⟨m + 1,j,by rw [aX (by omega)],by omega,hj,fun k hk => ?_,h2⟩,?_⟩
   ·exact Int.lt_of_le_of_lt (hmono k m (by omega) (by omega)) h3
   ·rw [aX (by omega)]; simp only [Int.toNat_natCast]; omega
  ·have h3:¬ idx s (m:Int) < a:=of_decide_eq_false h3;refine ⟨_,rfl,⟨i,m,rfl,a1,by omega,h1,fun _=>by omega⟩,?_⟩
   simp only [Int.toNat_natCast]; omega
 ·have h:¬ (i:Int) < j:=of_decide_eq_false h;have hji:j=i:=by omega
  subst hji;have hl:lb s a=j:=Jl hj h1 h2;refine ja (fun h3 => ?_) (fun h3 => ?_)
  ·have h3:(j:Int) < s.length:=of_decide_eq_true h3;have hlt:j < s.length:=by omega
   refine ai (by omega) (ja (fun h4 => ?_) (fun h4 => ?_))
   ·refine aI (ah ?_)
    simp [Rnd,hl,hit,hlt,h4]
   ·simp only [iC,Option.bind_some,bne_self_eq_false,cond_false]
    refine aI (ah ?_)
    simp [Rnd,hl,hit,hlt,h4]
  ·have h3:¬ (j:Int) < s.length:=of_decide_eq_false h3;have hlt:¬ j < s.length:=by omega
   refine aI (ah ?_)
   simp [Rnd,hl,hit,hlt]
theorem Io {s:List Int} {a:Int} (hA:Asc s):hit s a=true↔a ∈ s:=by
 unfold hit
 simp only [Bool.and_eq_true,decide_eq_true_eq,beq_iff_eq]
 constructor
 ·rintro ⟨h1,h2⟩
  rw [gy h1] at h2
  exact h2 ▸ List.getElem_mem h1
 ·intro h;obtain ⟨k,hk,e⟩:=List.getElem_of_mem h;have hP:=List.pairwise_iff_getElem.1 (vg.1 hA);have:lb s a=k:=by
   refine Jl (by omega) (fun j hj => ?_) (fun _ => ?_)
   ·rw [gy (by omega),← e]; exact hP j k (by omega) hk hj
   ·rw [gy hk,e]; exact Int.le_refl _
  rw [this]
  exact ⟨hk,by rw [gy hk,e]⟩
def next (t:Int) (s:List Int) (a:Int):List Int:=if t=1 then [a] else if t=2 then s++[a] else if t=3 then ins s a else [w64 (idx s 0 + a)]
def app (t:Int) (s:List Int) (a:Int):List Int×Int :=
 if chk t s≠0 then ([],chk t s) else if (next t s a).length > 64 then ([],2) else (next t s a,0)
theorem FI {t:Int} {s:List Int} (h:chk t s=0):1≤t∧t≤4∧SOk t s=true:=by
 unfold chk at h
 split at h
 ·rename_i h1
  split at h
  ·exact ⟨h1.1,h1.2,by assumption⟩
  ·cases h
 ·cases h
theorem FJ {t:Int} {s:List Int} (h:SOk t s=true):s.length≤64:=by
 simp only [SOk,Bool.or_eq_true,Bool.and_eq_true,decide_eq_true_eq,beq_iff_eq] at h
 omega
theorem Js {s:List Int} (h:SOk 3 s=true):Asc s:=by
 simp [SOk] at h
 exact h.1
theorem ok_one {s:List Int} (h:SOk 4 s=true):s.length=1:=by
 simp [SOk] at h
 exact h
def start (t:Int):List Int×Int:=if 1≤t∧t≤4 then (if t=4 then [0] else [],0) else ([],1)
def step (t:Int) (x:List Int×Int) (a:Int):List Int×Int:=if x.2=0 then app t x.1 a else x
theorem EB {a b:List Int} (ha:a.length < 2 ^ 62):bT a b=some (decide (a=b)):=by
 unfold bT
 by_cases hl:a.length=b.length
 ·have:((a.length:Int) != (b.length:Int))=false:=by simp; omega
  rw [this,cond_false]
  refine gN.1 ?_;refine zD a.length (fun k=>∀ j:Nat,j < k→idx a (j:Int)=idx b (j:Int)) (fun j h=>by omega) (fun k hk hJ => ?_);unfold gQ;refine ja (fun h => ?_) (fun h => ?_)
  ·have h:(k:Int) < a.length:=of_decide_eq_true h;refine ai (by omega) (ai (by omega) (ja (fun h2 => ?_) (fun h2 => ?_)))
   ·have h2:idx a (k:Int)≠idx b (k:Int):=by simpa using h2
    refine aI (ah ?_)
    show false=_
    have:a≠b:=fun e=>h2 (by rw [e])
    simp [this]
   ·have h2:idx a (k:Int)=idx b (k:Int):=by simpa using h2
    refine ⟨_,rfl,aX (by omega),by omega,fun j hj => ?_⟩
    rcases Nat.lt_or_ge j k with h3 | h3
    ·exact hJ j h3
    ·have:j=k:=by omega
     subst this;exact h2
  ·have h:¬ (k:Int) < a.length:=of_decide_eq_false h;refine aI (ah ?_)
   show true=_
   have:a=b:=Cn hl (fun j hj=>hJ j (by omega))
   simp [this]
 ·have:((a.length:Int) != (b.length:Int))=true:=by simp; omega
  rw [this,cond_true]
  have:a≠b:=fun e=>hl (by rw [e])
  simp [this]
end Go.Proofs.YtmfgddafcgflaaaGreatT
namespace Go.Proofs.YtmfgddafcgflaaaGreatT
open Go Go.Proofs Go.Proofs.YtmfgddafcgflaaaGreatE
set_option linter.unusedVariables false
set_option linter.unusedSimpArgs false
theorem AJ {s:List Int} (a:Int) (hs:s.length < 2 ^ 62):eB s a=some (decide (a ∈ s)):=by
 unfold eB;refine gN.1 ?_;refine zD s.length (fun k=>∀ j:Nat,j < k→idx s (j:Int)≠a) (fun j h=>by omega) (fun k hk hJ => ?_);unfold nQ;refine ja (fun h => ?_) (fun h => ?_)
 ·have h:(k:Int) < s.length:=of_decide_eq_true h;have hks:k < s.length:=by omega
  refine ai (by omega) (ja (fun h2 => ?_) (fun h2 => ?_))
  ·have h2:idx s (k:Int)=a:=by simpa using h2
   refine aI (ah ?_)
   show true=_
   have:a ∈ s:=by rw [← h2,gy hks]; exact List.getElem_mem _
   simp [this]
  ·have h2:idx s (k:Int)≠a:=by simpa using h2
   refine ⟨_,rfl,aX (by omega),by omega,fun j hj => ?_⟩
   rcases Nat.lt_or_ge j k with h3 | h3
   ·exact hJ j h3
   ·have:j=k:=by omega
    subst this;exact h2
 ·have h:¬ (k:Int) < s.length:=of_decide_eq_false h;refine aI (ah ?_)
  show false=_
  have:a ∉ s:=by
   intro hm;obtain ⟨j,hj,e⟩:=List.getElem_of_mem hm;exact hJ j (by omega) (by rw [gy hj,e])
  simp [this]
theorem ze {a b:List Int} (ha:a.length < 2 ^ 62):dQ a b=some (decide (a=b)):=by
 rw [← EB ha]
 rfl
def Fit (s args:List Int):Prop:=∀ k:Nat,k < args.length→idx args (k:Int) ∈ s∧idx args (k:Int) ∉ args.take k
instance (s args:List Int):Decidable (Fit s args):=by unfold Fit; infer_instance
def before (t:Int) (s args:List Int):List Int×Bool :=
 if chk t s≠0∨args=[] then ([],false)
 else if t=1 then ([],decide (s.length=1∧idx s 0=idx args ((args.length - 1:Nat):Int)))
 else if t=2 then (if args.length≤s.length∧s.drop (s.length - args.length)=args then (s.take (s.length - args.length),true) else ([],false))
 else if t=3 then (if Fit s args then (s.filter (fun x=>decide (x ∉ args)),true) else ([],false))
 else ([args.foldl (fun v a=>w64 (v - a)) (idx s 0)],true)
theorem wK {s args:List Int} (hs:args.length < 2 ^ 62) (v:Int):iter (gu args) (v,0)=some ([args.foldl (fun v a=>w64 (v - a)) v],true):=by
 refine gN.1 ?_;refine wY args.length (fun k x=>x=(args.take k).foldl (fun v a=>w64 (v - a)) v) rfl (fun k x hk hJ => ?_);subst hJ;unfold gu;refine ja (fun h => ?_) (fun h => ?_)
 ·have h:(k:Int) < args.length:=of_decide_eq_true h;have hks:k < args.length:=by omega
  refine ai (by omega) ⟨_,rfl,aX (by omega),hks,?_⟩
  show _=List.foldl _ _ _
  rw [List.take_add_one,List.getElem?_eq_getElem hks,List.foldl_append,gy hks]
  rfl
 ·have h:¬ (k:Int) < args.length:=of_decide_eq_false h;refine aI (ah ?_)
  show ([_],true)=_
  rw [List.take_of_length_le (by omega)]
theorem EC {s args:List Int} (hs:s.length < 2 ^ 43) (hm:args.length≤s.length):iter (iV s args) 0=some (if s.drop (s.length - args.length)=args then (s.take (s.length - args.length),true) else ([],false)):=by
 have e1:w64 ((s.length:Int) - (args.length:Int))=((s.length - args.length:Nat):Int):=by rw [rM (by omega) (by omega)]; omega
 refine gN.1 ?_;refine zD args.length (fun k=>∀ j:Nat,j < k→idx s ((s.length - args.length + j:Nat):Int)=idx args (j:Int)) (fun j h=>by omega) (fun k hk hJ => ?_);unfold iV;refine ja (fun h => ?_) (fun h => ?_)
 ·have h:(k:Int) < args.length:=of_decide_eq_true h;have hks:k < args.length:=by omega
  have e2:w64 (w64 ((s.length:Int) - (args.length:Int)) + (k:Int))=((s.length - args.length + k:Nat):Int):=by rw [e1,rM (by omega) (by omega)]; omega
  rw [e2]
  refine ai (by omega) (ai (by omega) (ja (fun h2 => ?_) (fun h2 => ?_)))
  ·have h2:idx s ((s.length - args.length + k:Nat):Int)≠idx args (k:Int):=by simpa using h2
   refine aI (ah ?_)
   show ([],false)=_
   have:¬ s.drop (s.length - args.length)=args:=by
    intro e
    apply h2
    have h3:(s.drop (s.length - args.length))[k]? = args[k]? := by rw [e]
    rw [List.getElem?_drop,List.getElem?_eq_getElem (by omega),List.getElem?_eq_getElem hks] at h3
    rw [gy (by omega),gy hks]
    exact Option.some.inj h3
   rw [if_neg this]
  ·have h2:idx s ((s.length - args.length + k:Nat):Int)=idx args (k:Int):=by simpa using h2
   refine ⟨_,rfl,aX (by omega),by omega,fun j hj => ?_⟩
   rcases Nat.lt_or_ge j k with h3 | h3
   ·exact hJ j h3
   ·have:j=k:=by omega
    subst this;exact h2
 ·have h:¬ (k:Int) < args.length:=of_decide_eq_false h;have hd:s.drop (s.length - args.length)=args:=by
   refine List.ext_getElem (by simp; omega) (fun j h1 h2 => ?_);have:=hJ j (by omega)
   rw [gy (by omega),gy h2] at this
   rw [List.getElem_drop]
   exact this
  rw [e1]
  have hsl:di s (0:Int) ((s.length - args.length:Nat):Int)=s.take (s.length - args.length):=by simp [di]
  rw [hsl]
  refine ai (by omega) (ai ⟨by simp; omega,by simp; omega⟩ (aI (ah ?_)))
  show ([]++s.take _,true)=_
  rw [if_pos hd,List.nil_append]
theorem wL {s args:List Int} (hs:s.length < 2 ^ 43) (ha:args.length < 2 ^ 62):dm () s args=some (if args.length≤s.length∧s.drop (s.length - args.length)=args then (s.take (s.length - args.length),true) else ([],false)):=by
 unfold dm
 by_cases hm:args.length≤s.length
 ·have e1:w64 ((s.length:Int) - (args.length:Int))=((s.length - args.length:Nat):Int):=by rw [rM (by omega) (by omega)]; omega
  have hlt:decide (w64 ((s.length:Int) - (args.length:Int)) < 0)=false:=decide_eq_false (by rw [e1]; omega)
  rw [hlt,cond_false,iH _ (by rw [e1]; omega),e1]
  have hsl:di s ((s.length - args.length:Nat):Int) (s.length:Int)=s.drop (s.length - args.length):=by simp [di]
  have a1:di s (0:Int) ((s.length - args.length:Nat):Int)=s.take (s.length - args.length):=by simp [di]
  rw [hsl,ze (by simp; omega)]
  simp only [Option.bind_some]
  unfold fP
  rw [e1,a1,iH _ (by omega)]
  have hc:dZ (s.take (s.length - args.length))=some (s.take (s.length - args.length)):=iH _ (by simp; omega)
  rw [hc]
  by_cases he:s.drop (s.length - args.length)=args
  ·simp [he,hm]
  ·simp [he]
 ·have hlt:decide (w64 ((s.length:Int) - (args.length:Int)) < 0)=true:=decide_eq_true (by rw [rM (by omega) (by omega)]; omega)
  rw [hlt,cond_true,fP,cond_true,if_neg (fun h=>hm h.1)]
theorem CU {s:List Int} (p:Int→Bool) (h:Asc s):Asc (s.filter p):=vg.2 ((vg.1 h).filter p)
theorem Ae {args:List Int} {k:Nat} (h:k < args.length):args.take (k + 1)=args.take k++[idx args (k:Int)]:=by
 rw [List.take_add_one,List.getElem?_eq_getElem h,gy h]; rfl
theorem BH {s args:List Int} {k:Nat} (h:k < args.length):s.filter (fun x=>decide (x ∉ args.take (k + 1)))=(s.filter (fun x=>decide (x ∉ args.take k))).filter (fun x=>decide (x≠idx args (k:Int))):=by
 rw [List.filter_filter]
 apply List.filter_congr
 intro x _
 rw [Ae h]
 simp only [List.mem_append,List.mem_singleton,not_or]
 rw [Bool.eq_iff_iff]
 simp only [decide_eq_true_eq,Bool.and_eq_true]
 exact ⟨fun h=>⟨h.2,h.1⟩,fun h=>⟨h.2,h.1⟩⟩
theorem CV {l:List Int} {a:Int} (hA:Asc l) (h:hit l a=true):l.take (lb l a)++l.drop (lb l a + 1)=l.filter (fun x=>decide (x≠a)):=by
 have hP:=List.pairwise_iff_getElem.1 (vg.1 hA)
 simp only [hit,Bool.and_eq_true,decide_eq_true_eq,beq_iff_eq] at h
 obtain ⟨h1,h2⟩:=h
 rw [gy h1] at h2
 generalize lb l a=i at h1 h2
 conv=>rhs; rw [← List.take_append_drop i l,List.drop_eq_getElem_cons h1,List.filter_append,List.filter_cons,h2]
 rw [if_neg (by simp)]
 congr 1
 ·symm
  rw [List.filter_eq_self]
  intro x hx;obtain ⟨j,hj,rfl⟩:=List.getElem_of_mem hx;have hj':j < i:=by simp at hj; omega
  have:=hP j i (by omega) h1 hj'
  rw [List.getElem_take,decide_eq_true_eq]
  omega
 ·symm
  rw [List.filter_eq_self]
  intro x hx;obtain ⟨j,hj,rfl⟩:=List.getElem_of_mem hx;have hj':i + 1 + j < l.length:=by simp at hj; omega
  have:=hP i (i + 1 + j) h1 hj' (by omega)
  rw [List.getElem_drop,decide_eq_true_eq]
  omega
theorem xK {s args:List Int} (hA:Asc s) (hs:s.length < 2 ^ 43) (ha:args.length < 2 ^ 62):dN () s args=some (if Fit s args then (s.filter (fun x=>decide (x ∉ args)),true) else ([],false)):=by
 unfold dN;have hc:dZ s=some s:=iH _ (by omega)
 rw [hc]
 refine gN.1 ?_
 show Tri (iter (ji args) (s,0)) _
 refine wY args.length (fun k l=>l=s.filter (fun x=>decide (x ∉ args.take k))∧∀ j:Nat,j < k→idx args (j:Int) ∈ s∧idx args (j:Int) ∉ args.take j) ⟨by simp; exact (List.filter_eq_self.2 (fun _ _=>rfl)).symm,fun j h=>by omega⟩ (fun k l hk hJ => ?_)
 obtain ⟨hl,hJ⟩:=hJ;have hAl:Asc l:=by rw [hl]; exact CU _ hA
 have hll:l.length≤s.length:=by rw [hl]; exact List.length_filter_le _ _
 unfold ji;refine ja (fun h => ?_) (fun h => ?_)
 ·have h:(k:Int) < args.length:=of_decide_eq_true h;have hks:k < args.length:=by omega
  refine ai (by omega) ?_
  rw [BG _ hAl (by omega)]
  have hm:=Io (s:=l) (a:=idx args (k:Int)) hAl
  show Tri (bif !hit l (idx args (k:Int)) then _ else _) _
  cases hh:hit l (idx args (k:Int))
  ·simp only [Bool.not_false,cond_true]
   refine aI (ah ?_)
   show ([],false)=_
   have hn:¬ Fit s args:=by
    intro hF;have h1:=hF k hks;have:idx args (k:Int) ∈ l:=by rw [hl,List.mem_filter]; exact ⟨h1.1,by simpa using h1.2⟩
    rw [hm.2 this] at hh
    cases hh
   rw [if_neg hn]
  ·simp only [Bool.not_true,cond_false]
   have hi:=FH l (idx args (k:Int));have hlt:lb l (idx args (k:Int)) < l.length:=by
    simp only [hit,Bool.and_eq_true,decide_eq_true_eq] at hh
    exact hh.1
   have hd:gV l (lb l (idx args (k:Int)):Int) (w64 ((lb l (idx args (k:Int)):Int) + 1))=some (l.filter (fun x=>decide (x≠idx args (k:Int)))):=by
    unfold gV
    rw [aX (by omega),iH _ ⟨by omega,by omega,by omega⟩,Int.toNat_natCast,Int.toNat_natCast,CV hAl hh]
   rw [hd]
   refine ⟨_,rfl,aX (by omega),hks,?_,fun j hj => ?_⟩
   ·rw [BH hks,← hl]
   ·rcases Nat.lt_or_ge j k with h3 | h3
    ·exact hJ j h3
    ·have:j=k:=by omega
     subst this;have hmem:=hm.1 hh
     rw [hl,List.mem_filter] at hmem
     exact ⟨hmem.1,by simpa using hmem.2⟩
 ·have h:¬ (k:Int) < args.length:=of_decide_eq_false h;have hF:Fit s args:=fun j hj=>hJ j (by omega);refine aI (ah ?_)
  show (l,true)=_
  rw [if_pos hF,hl,List.take_of_length_le (by omega)]
theorem yu {s args:List Int} (hs:s.length < 2 ^ 43) (ha:args.length < 2 ^ 62):iter (iX s args) ([],0)=some (.inr (s.filter (fun x=>decide (x ∉ args)),true)):=by
 refine gN.1 ?_;refine wY s.length (fun k l=>l=(s.take k).filter (fun x=>decide (x ∉ args))) (by simp) (fun k l hk hJ => ?_);have hll:l.length≤k:=by rw [hJ]; exact Nat.le_trans (List.length_filter_le _ _) (by simp; omega)
 unfold iX;refine ja (fun h => ?_) (fun h => ?_)
 ·have h:(k:Int) < s.length:=of_decide_eq_true h;have hks:k < s.length:=by omega
  refine ai (by omega) ?_
  rw [AJ _ ha]
  show Tri (bif !decide _ then _ else _) _
  have hn:(s.take (k + 1)).filter (fun x=>decide (x ∉ args))=l++(if idx s (k:Int) ∈ args then [] else [idx s (k:Int)]):=by
   rw [Ae hks,List.filter_append,← hJ]
   congr 1
   by_cases hm:idx s (k:Int) ∈ args <;> simp [hm]
  by_cases hm:idx s (k:Int) ∈ args
  ·simp only [hm,decide_true,Bool.not_true,cond_false]
   refine ⟨_,rfl,aX (by omega),hks,?_⟩
   show l=_
   rw [hn,if_pos hm,List.append_nil]
  ·simp only [hm,decide_false,Bool.not_false,cond_true]
   refine ai ⟨by omega,by omega⟩ ⟨_,rfl,aX (by omega),hks,?_⟩
   show l++[idx s (k:Int)]=_
   rw [hn,if_neg hm]
 ·have h:¬ (k:Int) < s.length:=of_decide_eq_false h;refine aI (aI (ah ?_))
  show Sum.inr (l,true)=_
  rw [hJ,List.take_of_length_le (by omega)]
theorem AL {s args:List Int} (hs:s.length < 2 ^ 43) (ha:args.length < 2 ^ 62):iter (iY s args) 0=some (if Fit s args then (s.filter (fun x=>decide (x ∉ args)),true) else ([],false)):=by
 refine gN.1 ?_;refine zD args.length (fun k=>∀ j:Nat,j < k→idx args (j:Int) ∈ s∧idx args (j:Int) ∉ args.take j) (fun j h=>by omega) (fun k hk hJ => ?_);unfold iY;refine ja (fun h => ?_) (fun h => ?_)
 ·have h:(k:Int) < args.length:=of_decide_eq_true h;have hks:k < args.length:=by omega
  refine ai (by omega) ?_
  rw [AJ _ (by omega)]
  have hfail:¬ (idx args (k:Int) ∈ s∧idx args (k:Int) ∉ args.take k)→Tri (fV (k:Int) true) (Up args.length k (fun k=>∀ j:Nat,j < k→idx args (j:Int) ∈ s∧idx args (j:Int) ∉ args.take j) (fun r=>r=(if Fit s args then (s.filter (fun x=>decide (x ∉ args)),true) else ([],false)))):=by
   intro hn;refine aI (ah ?_)
   show ([],false)=_
   rw [if_neg (fun hF=>hn (hF k hks))]
  have hsl:di args (0:Int) (k:Int)=args.take k:=by simp [di]
  show Tri (bif !decide _ then _ else _) _
  by_cases hm:idx args (k:Int) ∈ s
  ·simp only [hm,decide_true,Bool.not_true,cond_false]
   refine ai (by omega) ?_
   rw [hsl,AJ _ (by simp; omega)]
   show Tri (fV (k:Int) (decide _)) _
   by_cases a1:idx args (k:Int) ∈ args.take k
   ·simp only [a1,decide_true]
    exact hfail (fun h=>h.2 a1)
   ·simp only [a1,decide_false]
    refine ⟨_,rfl,aX (by omega),hks,fun j hj => ?_⟩;rcases Nat.lt_or_ge j k with h3 | h3
    ·exact hJ j h3
    ·have:j=k:=by omega
     subst this;exact ⟨hm,a1⟩
  ·simp only [hm,decide_false,Bool.not_false,cond_true]
   exact hfail (fun h=>hm h.1)
 ·have h:¬ (k:Int) < args.length:=of_decide_eq_false h;have hF:Fit s args:=fun j hj=>hJ j (by omega)
  rw [yu hs ha]
  rw [if_pos hF]
  exact ⟨_,rfl,rfl⟩
theorem BI {s args:List Int} (ha:args.length < 2 ^ 62) (h0:args≠[]):fu () s args=some ([],decide (s.length=1∧idx s 0=idx args ((args.length - 1:Nat):Int))):=by
 unfold fu;have hp:0 < args.length:=List.length_pos_iff.2 h0;have e1:w64 ((args.length:Int) - 1)=((args.length - 1:Nat):Int):=nW ha hp
 rw [e1]
 by_cases h1:s.length=1
 ·have h2:((s.length:Int) == 1)=true:=by rw [beq_iff_eq]; omega
  rw [h2,cond_true,iH _ (by omega),iH _ (by omega)]
  simp [h1]
  rw [Bool.eq_iff_iff]; simp
 ·have h2:((s.length:Int) == 1)=false:=by rw [beq_eq_false_iff_ne]; omega
  rw [h2,cond_false]
  simp [h1]
theorem wM (t:Int) {s args:List Int} (hs:s.length < 2 ^ 62) (ha:args.length < 2 ^ 62):eX t s args=some (before t s args):=by
 unfold eX before
 rw [xJ t hs]
 by_cases hc:chk t s=0
 ·obtain ⟨h1,h2,h3⟩:=FI hc;have hl:=FJ h3
  simp only [hc,Option.bind_some,bne_self_eq_false,cond_false,ne_eq,not_true,false_or]
  by_cases h0:args=[]
  ·subst h0
   simp [jd]
  ·have hp:((args.length:Int) == 0)=false:=by
    have:0 < args.length:=List.length_pos_iff.2 h0
    rw [beq_eq_false_iff_ne]; omega
   rw [hp,if_neg h0]
   unfold jd;rcases four ⟨h1,h2⟩ with rfl | rfl | rfl | rfl
   ·simp [jf,BI ha h0]
   ·simp [jf,wL (s:=s) (by omega) ha]
   ·simp [jf,xK (Js h3) (by omega) ha]
   ·have:=ok_one h3
    simp [jf,dw]
    rw [iH _ (by omega),wK (s:=s) ha]
    simp
 ·have:(chk t s != 0)=true:=by simpa using hc
  simp [hc,this,jd]
theorem yw (t:Int) {s args:List Int} (hs:s.length < 2 ^ 62) (ha:args.length < 2 ^ 62):aC t s args=some (before t s args):=by
 unfold aC before
 rw [zb t hs]
 by_cases hc:chk t s=0
 ·obtain ⟨h1,h2,h3⟩:=FI hc;have hl:=FJ h3
  simp only [hc,Option.bind_some,bne_self_eq_false,cond_false,ne_eq,not_true,false_or]
  by_cases h0:args=[]
  ·subst h0
   simp [eT]
  ·have hp:((args.length:Int) == 0)=false:=by
    have:0 < args.length:=List.length_pos_iff.2 h0
    rw [beq_eq_false_iff_ne]; omega
   rw [hp,if_neg h0]
   unfold eT;rcases four ⟨h1,h2⟩ with rfl | rfl | rfl | rfl
   ·simp only [cond_false,show ((1:Int) == 1)=true from rfl,cond_true,if_true]
    exact BI ha h0
   ·by_cases hm:args.length≤s.length
    ·have:¬ (args.length:Int) > s.length:=by omega
     simp [this,EC (s:=s) (by omega) hm,hm]
    ·have:(args.length:Int) > s.length:=by omega
     simp [this,hm]
   ·simp [AL (s:=s) (by omega) ha]
   ·have:=ok_one h3
    simp
    rw [iH _ (by omega)]
    exact wK (s:=s) ha _
 ·have:(chk t s != 0)=true:=by simpa using hc
  simp [hc,this,eT]
theorem AO (t:Int) (s args:List Int):(before t s args).1.length≤s.length + 1:=by
 unfold before
 split
 ·simp
 ·split
  ·simp
  ·split
   ·split <;> simp <;> omega
   ·split
    ·split
     ·exact Nat.le_trans (List.length_filter_le _ _) (by omega)
     ·simp
    ·simp
end Go.Proofs.YtmfgddafcgflaaaGreatT
namespace Go.Proofs.YtmfgddafcgflaaaGreatT
open Go Go.Proofs Go.Proofs.YtmfgddafcgflaaaGreatE
set_option linter.unusedVariables false
set_option linter.unusedSimpArgs false
def pI (c:Call) (k:Int):Prop :=
 1≤c.Kind∧c.Kind≤8∧1≤c.Key.size∧c.Key.size≤32 ∧
  (c.Kind≤4→c.Got=false∧c.Vals.length=0∧(c.Kind=4 → -1048576≤c.Arg∧c.Arg≤1048576)) ∧
  (5≤c.Kind→c.Arg=0∧(c.Got=true↔k=1)∧(c.Got=false→c.Vals.length=0) ∧
   (c.Got=true→(c.Kind=5→c.Vals.length≤1)∧(c.Kind=8→c.Vals.length=1)∧(c.Kind=7→Asc c.Vals)∧c.Vals.length≤64))
theorem Af {k:ByteArray}:k=(⟨#[]⟩:ByteArray)↔k.size=0:=by
 constructor
 ·rintro rfl; rfl
 ·intro h;obtain ⟨a⟩:=k;have:a = #[]:=Array.eq_empty_of_size_eq_zero h
  rw [this]
theorem FK {c:Call} (hs:c.Vals.length < 2 ^ 61):Tri (iter (oH c) 1) (fun r=>r=true↔(c.Kind=7→Asc c.Vals)):=by
 refine dB (k0:=1) (c.Vals.length + 1) (fun k x=>x=(k:Int)∧1≤k∧∀ j:Nat,j + 1 < k→j + 1 < c.Vals.length→idx c.Vals (j:Int) < idx c.Vals ((j + 1:Nat):Int)) (by omega) ⟨rfl,Nat.le_refl _,fun j h=>by omega⟩ ?_
 rintro k x hk ⟨rfl,a1,hJ⟩;unfold oH oG
 dsimp only
 have e:=nW (k:=k) (by omega) a1;have e2:=aX (k:=k) (by omega)
 rw [e,e2]
 repeat' (first | contradiction | with_reducible refine ay (fun hq => ?_) (fun hq => ?_) | with_reducible refine ai (by first | omega | grind [bD]) ?_ | with_reducible refine aI ?_ | with_reducible refine bE ?_ | with_reducible refine bR ?_ | with_reducible refine bP ?_ | with_reducible refine bU ?_ | with_reducible refine ah ?_)
 ·show false=true↔_
  have hl:¬ Asc c.Vals:=by
   intro hA;have:=hA (k - 1) (by omega)
   rw [show k - 1 + 1=k by omega] at this
   omega
  grind
 ·refine ⟨by omega,rfl,by omega,fun j hj hl => ?_⟩
  rcases Nat.lt_or_ge (j + 1) k with h3 | h3
  ·exact hJ j h3 hl
  ·have:j=k - 1:=by omega
   subst this
   rw [show k - 1 + 1=k by omega]
   omega
 ·show true=true↔_
  have hl:Asc c.Vals:=fun j hj=>hJ j (by omega) hj
  grind
 ·show true=true↔_
  grind
theorem yx (c:Call) (k:Int) (hs:c.Vals.length < 2 ^ 61):Tri (bJ c k) (fun r=>r=true↔pI c k):=by
 unfold bJ ky oJ oI sM pI
 simp only [cond_true,cond_false]
 have he:=Af (k:=c.Key)
 repeat' (first | contradiction | with_reducible refine ay (fun hq => ?_) (fun hq => ?_) | with_reducible refine ai (by first | omega | grind [bD]) ?_ | with_reducible refine aI ?_ | with_reducible refine bE ?_ | with_reducible refine bR ?_ | with_reducible refine bP ?_ | with_reducible refine bU ?_ | with_reducible refine ah ?_ | refine dO (FK hs) (fun r hr => ?_))
 all_goals grind
theorem Ip {c:Call} (hs:c.Vals.length < 2 ^ 61) (hc:c.Kind=7):Tri (iter (jG c) 1) (fun r=>r=true↔(Asc c.Vals∧c.Vals.length≤64)):=by
 refine dB (k0:=1) (c.Vals.length + 1) (fun k x=>x=(k:Int)∧1≤k∧∀ j:Nat,j + 1 < k→j + 1 < c.Vals.length→idx c.Vals (j:Int) < idx c.Vals ((j + 1:Nat):Int)) (by omega) ⟨rfl,Nat.le_refl _,fun j h=>by omega⟩ ?_
 rintro k x hk ⟨rfl,a1,hJ⟩;unfold jG gX
 dsimp only
 have e:=nW (k:=k) (by omega) a1;have e2:=aX (k:=k) (by omega)
 rw [e,e2]
 repeat' (first | contradiction | with_reducible refine ay (fun hq => ?_) (fun hq => ?_) | with_reducible refine ai (by first | omega | grind [bD]) ?_ | with_reducible refine aI ?_ | with_reducible refine bE ?_ | with_reducible refine bR ?_ | with_reducible refine bP ?_ | with_reducible refine bU ?_ | with_reducible refine ah ?_)
 ·show false=true↔_
  have hl:¬ Asc c.Vals:=by
   intro hA;have:=hA (k - 1) (by omega)
   rw [show k - 1 + 1=k by omega] at this
   omega
  grind
 ·refine ⟨by omega,rfl,by omega,fun j hj hl => ?_⟩
  rcases Nat.lt_or_ge j (k - 1) with h3 | h3
  ·exact hJ j (by omega) hl
  ·have:j=k - 1:=by omega
   subst this
   rw [show k - 1 + 1=k by omega]
   omega
 ·show decide _=true↔_
  have hl:Asc c.Vals:=fun j hj=>hJ j (by omega) hj
  grind
theorem zS (c:Call) (k:Int) (hs:c.Vals.length < 2 ^ 61):Tri (aQ c k) (fun r=>r=true↔pI c k):=by
 unfold aQ fF fE gX pI
 simp only [cond_true,cond_false]
 have ha:c.Vals.length=0→Asc c.Vals:=fun h j hj=>by omega
 repeat' (first | contradiction | with_reducible refine ay (fun hq => ?_) (fun hq => ?_) | with_reducible refine ai (by first | omega | grind [bD]) ?_ | with_reducible refine aI ?_ | with_reducible refine bE ?_ | with_reducible refine bR ?_ | with_reducible refine bP ?_ | with_reducible refine bU ?_ | with_reducible refine ah ?_ | refine dO (Ip hs (by assumption)) (fun r hr => ?_))
 all_goals grind
def Small (l:List Call):Prop:=l.length < 2 ^ 61∧qN l (fun c=>c.Vals.length < 2 ^ 61)
theorem FL {l:List Call} {e:Event} (hs:Small l):Tri (cz l e) (fun r=>r=true ↔ ¬ qN l (fun c=>pI c e.Kind)):=by
 have h1:Tri (bv l e) (fun r=>0≤r ↔ ¬ qN l (fun c=>pI c e.Kind)):=by
  have hl:=hs.1;unfold bv;refine jX l.length (fun j=>pI (idx l (j:Int)) e.Kind) ?_;intro k hk hJ;unfold eD pW
  dsimp only
  repeat' (first | contradiction | with_reducible refine ay (fun hq => ?_) (fun hq => ?_) | with_reducible refine ai (by first | omega | grind [bD]) ?_ | with_reducible refine aI ?_ | with_reducible refine bE ?_ | with_reducible refine bR ?_ | with_reducible refine bP ?_ | with_reducible refine bU ?_ | with_reducible refine ah ?_ | refine cZ (yx _ _ (hs.2 k (by omega))) (fun r hr => ?_))
  all_goals grind [Nxt,qN,bD]
 unfold cz;refine cZ h1 (fun r hr => ?_)
 repeat' (first | contradiction | with_reducible refine ay (fun hq => ?_) (fun hq => ?_) | with_reducible refine ai (by first | omega | grind [bD]) ?_ | with_reducible refine aI ?_ | with_reducible refine bE ?_ | with_reducible refine bR ?_ | with_reducible refine bP ?_ | with_reducible refine bU ?_ | with_reducible refine ah ?_)
 grind
def vX (e:Event):Prop:=0≤e.Kind∧e.Kind≤3∧e.Calls.length≤16∧qN e.Calls (fun c=>pI c e.Kind)
theorem yz {e:Event} (hs:Small e.Calls):Tri (fe [e]) (fun r=>(r=0↔vX e)∧(r=0∨r=1)):=by
 unfold fe;refine ay (fun h => ?_) (fun h => ?_)
 ·simp at h
 ·refine jX 1 (fun j=>vX e) ?_;intro k hk hJ;unfold rz ma
  dsimp only
  have hi:k=0→idx [e] (k:Int)=e:=by rintro rfl; rfl
  simp only [cond_true,cond_false]
  have hc:=fun h:k=0=>FL (l:=e.Calls) (e:=e) hs
  by_cases h0:k=0
  ·rw [hi h0]
   repeat' (first | contradiction | with_reducible refine ay (fun hq => ?_) (fun hq => ?_) | with_reducible refine ai (by first | omega | grind [bD]) ?_ | with_reducible refine aI ?_ | with_reducible refine bE ?_ | with_reducible refine bR ?_ | with_reducible refine bP ?_ | with_reducible refine bU ?_ | with_reducible refine ah ?_ | refine cZ (hc h0) (fun r hr => ?_))
   all_goals grind [Nxt,vX,bD]
  ·repeat' (first | contradiction | with_reducible refine ay (fun hq => ?_) (fun hq => ?_) | with_reducible refine ai (by first | omega | grind [bD]) ?_ | with_reducible refine aI ?_ | with_reducible refine bE ?_ | with_reducible refine bR ?_ | with_reducible refine bP ?_ | with_reducible refine bU ?_ | with_reducible refine ah ?_ | refine cZ (hc (by grind)) (fun r hr => ?_))
   all_goals grind [Nxt,vX,bD]
theorem zf {e:Event} (hs:Small e.Calls):Tri (bI e) (fun r=>r=true↔vX e):=by
 unfold bI gI
 simp only [cond_true,cond_false]
 have hl:=hs.1;have h1:Tri (iter (jl e) 0) (fun r=>r=true↔qN e.Calls (fun c=>pI c e.Kind)):=by
  refine jX e.Calls.length (fun j=>pI (idx e.Calls (j:Int)) e.Kind) ?_;intro k hk hJ;unfold jl
  dsimp only
  repeat' (first | contradiction | with_reducible refine ay (fun hq => ?_) (fun hq => ?_) | with_reducible refine ai (by first | omega | grind [bD]) ?_ | with_reducible refine aI ?_ | with_reducible refine bE ?_ | with_reducible refine bR ?_ | with_reducible refine bP ?_ | with_reducible refine bU ?_ | with_reducible refine ah ?_ | refine cZ (zS _ _ (hs.2 k (by omega))) (fun r hr => ?_))
  all_goals grind [Nxt,qN,bD]
 repeat' (first | contradiction | with_reducible refine ay (fun hq => ?_) (fun hq => ?_) | with_reducible refine ai (by first | omega | grind [bD]) ?_ | with_reducible refine aI ?_ | with_reducible refine bE ?_ | with_reducible refine bR ?_ | with_reducible refine bP ?_ | with_reducible refine bU ?_ | with_reducible refine ah ?_ | refine dO h1 (fun r hr => ?_))
 all_goals grind [vX]
theorem yA {e:Event} (hs:Small e.Calls):Tri (dX [e]) (fun r=>(r=0↔vX e)∧(r=0∨r=1)):=by
 unfold dX;refine ay (fun h => ?_) (fun h => ?_)
 ·simp at h
 ·refine jX 1 (fun j=>vX e) ?_;intro k hk hJ;unfold lm
  dsimp only
  have hi:k=0→idx [e] (k:Int)=e:=by rintro rfl; rfl
  have hc:k=0→Tri (bI (idx [e] (k:Int))) (fun r=>r=true↔vX e):=fun h0=>by rw [hi h0]; exact zf hs
  repeat' (first | contradiction | with_reducible refine ay (fun hq => ?_) (fun hq => ?_) | with_reducible refine ai (by first | omega | grind [bD]) ?_ | with_reducible refine aI ?_ | with_reducible refine bE ?_ | with_reducible refine bR ?_ | with_reducible refine bP ?_ | with_reducible refine bU ?_ | with_reducible refine ah ?_ | refine cZ (hc (by grind)) (fun r hr => ?_))
  all_goals grind [Nxt,bD]
def uE (h:History) (o:Op):Call:=⟨o.Kind,idx h.Keys o.Key,o.Arg,o.Got,o.Vals⟩
def cB (h:History) (t:Txn):List Call:=t.Ops.map (uE h)
def vJ (h:History) (t:Txn):Event:=⟨0,t.Status,cB h t⟩
def tF (h:History) (t:Txn):Prop:=qN t.Ops (fun o=>0≤o.Key∧o.Key < (h.Keys.length:Int))
def zg (t:Txn):Prop:=t.Ops.length * 56≤140737488351232∧qN t.Ops (fun o=>o.Vals.length * 8≤140737488351232)
theorem zg.small {h:History} {t:Txn} (hs:zg t) (k:Nat):Small ((cB h t).take k):=by
 have h1:=hs.1;refine ⟨by simp [cB]; omega,fun j hj => ?_⟩
 have hj':j < k∧j < t.Ops.length:=by simp [cB] at hj; omega
 rw [qz hj'.1,cB,vo hj'.2]
 have:=hs.2 j hj'.2
 show (idx t.Ops (j:Int)).Vals.length < _
 omega
theorem xL {h:History} {t:Txn} (hs:zg t):Tri (dI h t) (fun r=>(r.2=true↔tF h t∧vX (vJ h t))∧(r.2=true→r.1=vJ h t)):=by
 unfold dI;have hl:=hs.1;refine wY t.Ops.length (fun k l=>l=(cB h t).take k∧∀ j:Nat,j < k→0≤(idx t.Ops (j:Int)).Key∧(idx t.Ops (j:Int)).Key < (h.Keys.length:Int)) ⟨rfl,by omega⟩ ?_
 rintro k l hk ⟨rfl,hJ⟩;have hlen:((cB h t).take k).length=k:=by simp [cB]; omega
 unfold qf nD qd
 simp only [cond_true,cond_false,hlen]
 have hsm:=yz (e:=⟨0,t.Status,(cB h t).take k⟩) (hs.small k);have hfull:k=t.Ops.length→(cB h t).take k=cB h t:=fun e=>List.take_of_length_le (by simp [cB]; omega);have hnext:k < t.Ops.length→(cB h t).take (k + 1)=(cB h t).take k++[uE h (idx t.Ops (k:Int))]:=fun hk=>by
  rw [lI (by simpa [cB] using hk),cB,vo hk]
 repeat' (first | contradiction | with_reducible refine ay (fun hq => ?_) (fun hq => ?_) | with_reducible refine ai (by first | omega | grind [bD]) ?_ | with_reducible refine aI ?_ | with_reducible refine bE ?_ | with_reducible refine bR ?_ | with_reducible refine bP ?_ | with_reducible refine bU ?_ | with_reducible refine ah ?_ | refine cZ hsm (fun r hr => ?_))
 all_goals grind [Up2,tF,qN,bD,uE,vJ]
def Ag (l:List Txn) (i:Nat):Prop:=∀ j:Nat,j < i → ¬ ((idx l (j:Int)).Proc=(idx l (i:Int)).Proc∧((idx l (j:Int)).To = -1∨(idx l (j:Int)).To ≥ (idx l (i:Int)).From))
def uF (l:List Txn) (i:Nat):Prop :=
 1≤(idx l (i:Int)).Status∧(idx l (i:Int)).Status≤3∧0≤(idx l (i:Int)).From∧((idx l (i:Int)).To = -1→(idx l (i:Int)).Status=3) ∧
  ((idx l (i:Int)).To ≠ -1→(idx l (i:Int)).From < (idx l (i:Int)).To)∧(0 < i→(idx l ((i - 1:Nat):Int)).From < (idx l (i:Int)).From)∧Ag l i
theorem ED {l:List Txn} {i:Nat} (hi:i < l.length) (hl:l.length < 2 ^ 61):Tri (bY (di l 0 (i:Int)) (idx l (i:Int))) (fun r=>r=true ↔ ¬ Ag l i):=by
 have h1:Tri (aZ (di l 0 (i:Int)) (idx l (i:Int))) (fun r=>0≤r ↔ ¬ Ag l i):=by
  rw [mX (by omega)]
  unfold aZ;have ht:(l.take i).length=i:=by simp; omega
  refine jX i (fun j => ¬ ((idx l (j:Int)).Proc=(idx l (i:Int)).Proc∧((idx l (j:Int)).To = -1∨(idx l (j:Int)).To ≥ (idx l (i:Int)).From))) ?_;intro k hk hJ;unfold dY nE
  dsimp only
  rw [ht]
  have hx:k < i→idx (l.take i) (k:Int)=idx l (k:Int):=fun h=>qz h
  repeat' (first | contradiction | with_reducible refine ay (fun hq => ?_) (fun hq => ?_) | with_reducible refine ai (by first | omega | grind [bD]) ?_ | with_reducible refine aI ?_ | with_reducible refine bE ?_ | with_reducible refine bR ?_ | with_reducible refine bP ?_ | with_reducible refine bU ?_ | with_reducible refine ah ?_)
  all_goals grind [Nxt,Ag,bD]
 unfold bY;refine cZ h1 (fun r hr => ?_)
 repeat' (first | contradiction | with_reducible refine ay (fun hq => ?_) (fun hq => ?_) | with_reducible refine ai (by first | omega | grind [bD]) ?_ | with_reducible refine aI ?_ | with_reducible refine bE ?_ | with_reducible refine bR ?_ | with_reducible refine bP ?_ | with_reducible refine bU ?_ | with_reducible refine ah ?_)
 grind
theorem wN {l:List Txn} {i:Nat} (hi:i < l.length) (hl:l.length < 2 ^ 61):Tri (bG (di l 0 (i:Int)) (idx l (i:Int))) (fun r=>r=true↔uF l i):=by
 have hf:=ED hi hl;have hlen:(di l 0 (i:Int)).length=i:=by rw [mX (by omega)]; simp; omega
 have hx:0 < i→idx (di l 0 (i:Int)) (w64 ((i:Int) - 1))=idx l ((i - 1:Nat):Int):=fun h=>by
  rw [nW (by omega) (by omega),mX (by omega),qz (by omega)]
 have hw:0 < i→w64 ((i:Int) - 1)=((i - 1:Nat):Int):=fun h=>nW (by omega) (by omega);unfold bG mF mE mD kg uF
 simp only [cond_true,cond_false,hlen]
 repeat' (first | contradiction | with_reducible refine ay (fun hq => ?_) (fun hq => ?_) | with_reducible refine ai (by first | omega | grind [bD]) ?_ | with_reducible refine aI ?_ | with_reducible refine bE ?_ | with_reducible refine bR ?_ | with_reducible refine bP ?_ | with_reducible refine bU ?_ | with_reducible refine ah ?_ | refine cZ hf (fun r hr => ?_))
 all_goals grind
theorem uf {l:List Txn} {i:Nat} (hi:i < l.length) (hl:l.length < 2 ^ 61):Tri (aK l (i:Int)) (fun r=>r=true↔uF l i):=by
 have h1:Tri (iter (iT l (i:Int)) 0) (fun r=>r=true↔Ag l i):=by
  refine jX i (fun j => ¬ ((idx l (j:Int)).Proc=(idx l (i:Int)).Proc∧((idx l (j:Int)).To = -1∨(idx l (j:Int)).To ≥ (idx l (i:Int)).From))) ?_;intro k hk hJ;unfold iT fU
  simp only [cond_true,cond_false]
  repeat' (first | contradiction | with_reducible refine ay (fun hq => ?_) (fun hq => ?_) | with_reducible refine ai (by first | omega | grind [bD]) ?_ | with_reducible refine aI ?_ | with_reducible refine bE ?_ | with_reducible refine bR ?_ | with_reducible refine bP ?_ | with_reducible refine bU ?_ | with_reducible refine ah ?_)
  all_goals grind [Nxt,Ag,bD]
 have hw:0 < i→w64 ((i:Int) - 1)=((i - 1:Nat):Int):=fun h=>nW (by omega) (by omega);unfold aK cK iU uF
 simp only [cond_true,cond_false]
 repeat' (first | contradiction | with_reducible refine ay (fun hq => ?_) (fun hq => ?_) | with_reducible refine ai (by first | omega | grind [bD]) ?_ | with_reducible refine aI ?_ | with_reducible refine bE ?_ | with_reducible refine bR ?_ | with_reducible refine bP ?_ | with_reducible refine bU ?_ | with_reducible refine ah ?_ | refine dO h1 (fun r hr => ?_))
 all_goals grind
def DW (l:List ByteArray) (s:ByteArray) (r:Int):Prop :=
 (r = -1∧∀ j:Nat,j < l.length→idx l (j:Int)≠s)∨(∃ k:Nat,r=(k:Int)∧k < l.length∧idx l (k:Int)=s∧∀ j:Nat,j < k→idx l (j:Int)≠s)
theorem xM {l:List ByteArray} {s:ByteArray} (hl:l.length < 2 ^ 61):Tri (dM l s) (DW l s):=by
 unfold dM;refine jX l.length (fun j=>idx l (j:Int)≠s) ?_;intro k hk hJ;unfold lU
 dsimp only
 repeat' (first | contradiction | with_reducible refine ay (fun hq => ?_) (fun hq => ?_) | with_reducible refine ai (by first | omega | grind [bD]) ?_ | with_reducible refine aI ?_ | with_reducible refine bE ?_ | with_reducible refine bR ?_ | with_reducible refine bP ?_ | with_reducible refine bU ?_ | with_reducible refine ah ?_)
 ·exact .inr ⟨k,rfl,by omega,by assumption,hJ⟩
 ·grind [Nxt,bD]
 ·exact .inl ⟨rfl,fun j hj=>hJ j (by omega)⟩
def vY (l:List ByteArray) (i:Nat):Prop:=1≤(idx l (i:Int)).size∧(idx l (i:Int)).size≤32∧∀ j:Nat,j < i→idx l (j:Int)≠idx l (i:Int)
def nX (l:List ByteArray):Prop:=l.length≤32∧∀ i:Nat,i < l.length→vY l i
theorem zT {l:List ByteArray} {s:ByteArray} (hl:l.length < 2 ^ 61):Tri (slices_Contains_string l s) (fun r=>r=true↔∃ j:Nat,j < l.length∧idx l (j:Int)=s):=by
 have h1:Tri (slices_Index_string l s) (fun r=>0≤r↔∃ j:Nat,j < l.length∧idx l (j:Int)=s):=by
  unfold slices_Index_string;refine jX l.length (fun j=>idx l (j:Int)≠s) ?_;intro k hk hJ;unfold jQ
  dsimp only
  repeat' (first | contradiction | with_reducible refine ay (fun hq => ?_) (fun hq => ?_) | with_reducible refine ai (by first | omega | grind [bD]) ?_ | with_reducible refine aI ?_ | with_reducible refine bE ?_ | with_reducible refine bR ?_ | with_reducible refine bP ?_ | with_reducible refine bU ?_ | with_reducible refine ah ?_)
  all_goals grind [Nxt,bD]
 unfold slices_Contains_string;refine cZ h1 (fun r hr => ?_)
 repeat' (first | contradiction | with_reducible refine ay (fun hq => ?_) (fun hq => ?_) | with_reducible refine ai (by first | omega | grind [bD]) ?_ | with_reducible refine aI ?_ | with_reducible refine bE ?_ | with_reducible refine bR ?_ | with_reducible refine bP ?_ | with_reducible refine bU ?_ | with_reducible refine ah ?_)
 grind
theorem zh {l:List ByteArray} (hl:l.length < 2 ^ 61):Tri (bO l) (fun r=>r=true↔nX l):=by
 unfold bO;refine jX l.length (vY l) ?_;intro k hk hJ;unfold lh gH
 simp only [cond_true,cond_false]
 have hf:Tri (dM (di l 0 (k:Int)) (idx l (k:Int))) (fun r=>0≤r↔∃ j:Nat,j < k∧idx l (j:Int)=idx l (k:Int)):=by
  rw [mX (by omega)]
  refine dO (xM (by simp; omega)) (fun r hr => ?_);have ht:(l.take k).length=k:=by simp; omega
  have hx:∀ j:Nat,j < k→idx (l.take k) (j:Int)=idx l (j:Int):=fun j h=>qz h;unfold DW at hr
  rw [ht] at hr
  grind
 have hN:nX l→k < l.length→vY l k:=fun h hk=>h.2 k hk
 repeat' (first | contradiction | with_reducible refine ay (fun hq => ?_) (fun hq => ?_) | with_reducible refine ai (by first | omega | grind [bD]) ?_ | with_reducible refine aI ?_ | with_reducible refine bE ?_ | with_reducible refine bR ?_ | with_reducible refine bP ?_ | with_reducible refine bU ?_ | with_reducible refine ah ?_ | refine cZ hf (fun r hr => ?_))
 all_goals (have hNk:vY l k↔(1≤(idx l (k:Int)).size∧(idx l (k:Int)).size≤32∧∀ j:Nat,j < k→idx l (j:Int)≠idx l (k:Int)):=Iff.rfl)
 all_goals grind [Nxt,nX,bD]
end Go.Proofs.YtmfgddafcgflaaaGreatT
namespace Go.Proofs.YtmfgddafcgflaaaGreatT
open Go Go.Proofs Go.Proofs.YtmfgddafcgflaaaGreatE
set_option linter.unusedVariables false
set_option linter.unusedSimpArgs false
def typ (k:Int):Int:=(k - 1) % 4 + 1
theorem uG {k:Int} (h1:1≤k) (h2:k≤8):lw k=some (typ k):=by
 have:k=1∨k=2∨k=3∨k=4∨k=5∨k=6∨k=7∨k=8:=by omega
 rcases this with h | h | h | h | h | h | h | h <;> subst h <;> decide
theorem yJ {k:Int} (h1:1≤k) (h2:k≤8):iD k=some (typ k):=by
 have:k=1∨k=2∨k=3∨k=4∨k=5∨k=6∨k=7∨k=8:=by omega
 rcases this with h | h | h | h | h | h | h | h <;> subst h <;> decide
structure Sim (g:aW) (b:aD) (n:Nat):Prop where
 keys:g.keys=b.keys
 types:g.types=b.types
 len:b.keys.length≤32
 tl:b.types.length=b.keys.length
 wl:b.wrote.length=b.keys.length
 il:b.incs.length=b.keys.length
 ll:b.last_.length=b.keys.length
 nd:∀ i j:Nat,i < b.keys.length→j < b.keys.length→idx b.keys (i:Int)=idx b.keys (j:Int)→i=j
 has:∀ s,ku g.at_ s=true↔∃ j:Nat,j < b.keys.length∧idx b.keys (j:Int)=s
 at_:∀ j:Nat,j < b.keys.length→mat g.at_ (idx b.keys (j:Int))=(j:Int)
 facts:∀ j:Nat,j < b.keys.length→∀ a,ku g.facts ⟨idx b.keys (j:Int),a⟩=true↔∃ m:Nat,m < (idx b.wrote (j:Int)).length∧idx (idx b.wrote (j:Int)) (m:Int)=a
 fout:∀ s a,ku g.facts ⟨s,a⟩=true→∃ j:Nat,j < b.keys.length∧idx b.keys (j:Int)=s
 wn:∀ j:Nat,j < b.keys.length→(idx b.wrote (j:Int)).length≤n
 incs:∀ j:Nat,j < b.keys.length→((mat g.incs (idx b.keys (j:Int))).length:Int)=idx b.incs (j:Int)
 i8:∀ j:Nat,j < b.keys.length→(mat g.incs (idx b.keys (j:Int))).length≤8
 iout:∀ s,(∀ j:Nat,j < b.keys.length→idx b.keys (j:Int)≠s)→mat g.incs s=[]
 last:∀ j:Nat,j < b.keys.length→((mat g.incs (idx b.keys (j:Int))).length=0→idx b.last_ (j:Int) = -1) ∧
  (0 < (mat g.incs (idx b.keys (j:Int))).length→idx b.last_ (j:Int)=idx (mat g.incs (idx b.keys (j:Int))) (((mat g.incs (idx b.keys (j:Int))).length - 1:Nat):Int))
theorem Sim.start:Sim ⟨[],[],[],[],[]⟩ ⟨[],[],[],[],[]⟩ 0:=by
 refine ⟨rfl,rfl,by simp,rfl,rfl,rfl,rfl,?_,?_,?_,?_,?_,?_,?_,?_,?_,?_⟩
 all_goals simp [Cg,IM]
 rfl
theorem Sim.mono {g:aW} {b:aD} {n m:Nat} (h:Sim g b n) (hm:n≤m):Sim g b m :=
 { h with wn:=fun j hj=>Nat.le_trans (h.wn j hj) hm }
theorem Sim.new {g:aW} {b:aD} {n:Nat} (h:Sim g b n) {s:ByteArray} {t:Int} (hn:∀ j:Nat,j < b.keys.length→idx b.keys (j:Int)≠s) (a2:b.keys.length < 32) :
  Sim ⟨g.keys++[s],fG g.at_ s (g.keys.length:Int),g.types++[t],g.facts,g.incs⟩ ⟨b.keys++[s],b.types++[t],b.wrote++[[]],b.incs++[0],b.last_++[-1]⟩ n:=by
 have hk:=h.keys;have hl:(b.keys++[s]).length=b.keys.length + 1:=by simp
 have k1:∀ j:Nat,j < b.keys.length→idx (b.keys++[s]) (j:Int)=idx b.keys (j:Int):=fun j hj=>jI hj;have k2:idx (b.keys++[s]) ((b.keys.length:Nat):Int)=s:=iZ rfl;have w1:∀ j:Nat,j < b.keys.length→idx (b.wrote++[[]]) (j:Int)=idx b.wrote (j:Int):=fun j hj=>jI (by rw [h.wl]; exact hj);have w2:idx (b.wrote++[[]]) ((b.keys.length:Nat):Int)=[]:=iZ h.wl.symm;have i1:∀ j:Nat,j < b.keys.length→idx (b.incs++[0]) (j:Int)=idx b.incs (j:Int):=fun j hj=>jI (by rw [h.il]; exact hj);have i2:idx (b.incs++[0]) ((b.keys.length:Nat):Int)=0:=iZ h.il.symm;have l1:∀ j:Nat,j < b.keys.length→idx (b.last_++[-1]) (j:Int)=idx b.last_ (j:Int):=fun j hj=>jI (by rw [h.ll]; exact hj);have l2:idx (b.last_++[-1]) ((b.keys.length:Nat):Int) = -1:=iZ h.ll.symm;have a1:=h.iout s hn;have cut:∀ j:Nat,j < b.keys.length + 1→j < b.keys.length∨j=b.keys.length:=by omega
 refine ⟨by simp [hk],by simp [h.types],by simp; omega,by simp [h.tl],by simp [h.wl],by simp [h.il],by simp [h.ll],?_,?_,?_,?_,?_,?_,?_,?_,?_,?_⟩
 ·intro i j hi hj he
  dsimp only at hi hj he
  rw [hl] at hi hj
  have:=h.nd i j;rcases cut i hi with hi' | hi' <;> rcases cut j hj with hj' | hj' <;> grind
 ·intro x
  dsimp only
  rw [uO,hl,h.has]
  constructor
  ·rintro (rfl | ⟨j,hj,he⟩)
   ·exact ⟨_,Nat.lt_succ_self _,k2⟩
   ·exact ⟨j,by omega,(k1 j hj).trans he⟩
  ·rintro ⟨j,hj,he⟩;rcases cut j hj with hj' | hj'
   ·exact .inr ⟨j,hj',(k1 j hj') ▸ he⟩
   ·subst hj'; exact .inl (k2.symm.trans he).symm
 ·intro j hj
  dsimp only at hj ⊢
  rw [hl] at hj
  rw [ol,hk]
  rcases cut j hj with hj' | hj'
  ·rw [k1 j hj',if_neg (hn j hj')]; exact h.at_ j hj'
  ·subst hj'; rw [k2,if_pos rfl]
 ·intro j hj a
  dsimp only at hj ⊢
  rw [hl] at hj
  rcases cut j hj with hj' | hj'
  ·rw [k1 j hj',w1 j hj']; exact h.facts j hj' a
  ·subst hj'
   rw [k2,w2]
   constructor
   ·intro hh;obtain ⟨i,hi,he⟩:=h.fout s a hh;exact absurd he (hn i hi)
   ·rintro ⟨m,hm,_⟩; simp at hm
 ·intro x a hh;obtain ⟨i,hi,he⟩:=h.fout x a hh;exact ⟨i,by simp; omega,(k1 i hi).trans he⟩
 ·intro j hj
  dsimp only at hj ⊢
  rw [hl] at hj
  rcases cut j hj with hj' | hj'
  ·rw [w1 j hj']; exact h.wn j hj'
  ·subst hj'; rw [w2]; simp
 ·intro j hj
  dsimp only at hj ⊢
  rw [hl] at hj
  rcases cut j hj with hj' | hj'
  ·rw [k1 j hj',i1 j hj']; exact h.incs j hj'
  ·subst hj'; rw [k2,i2,a1]; rfl
 ·intro j hj
  dsimp only at hj ⊢
  rw [hl] at hj
  rcases cut j hj with hj' | hj'
  ·rw [k1 j hj']; exact h.i8 j hj'
  ·subst hj'; rw [k2,a1]; simp
 ·intro x hx
  dsimp only at hx ⊢
  rw [hl] at hx
  exact h.iout x (fun j hj=>by rw [← k1 j hj]; exact hx j (by omega))
 ·intro j hj
  dsimp only at hj ⊢
  rw [hl] at hj
  rcases cut j hj with hj' | hj'
  ·rw [k1 j hj',l1 j hj']; exact h.last j hj'
  ·subst hj'; rw [k2,l2,a1]; simp
theorem Sim.write {g:aW} {b:aD} {n k:Nat} (h:Sim g b n) {s:ByteArray} {a:Int} (hk:k < b.keys.length) (hs:idx b.keys (k:Int)=s) :
  Sim ⟨g.keys,g.at_,g.types,fG g.facts ⟨s,a⟩ (),g.incs⟩ ⟨b.keys,b.types,b.wrote.set k (idx b.wrote (k:Int)++[a]),b.incs,b.last_⟩ (n + 1):=by
 have w1:∀ j:Nat,idx (b.wrote.set k (idx b.wrote (k:Int)++[a])) (j:Int)=if j=k then idx b.wrote (k:Int)++[a] else idx b.wrote (j:Int):=fun j=>qA (by rw [h.wl]; exact hk);refine ⟨h.keys,h.types,h.len,h.tl,by simp [h.wl],h.il,h.ll,h.nd,h.has,h.at_,?_,?_,?_,h.incs,h.i8,h.iout,h.last⟩
 ·intro j hj x
  dsimp only at hj ⊢
  rw [uO,w1 j,h.facts j hj]
  by_cases e:j=k
  ·subst e
   rw [if_pos rfl,hs]
   constructor
   ·rintro (he | ⟨m,hm,he⟩)
    ·have:x=a:=by injection he
     subst this;exact ⟨_,by simp,iZ rfl⟩
    ·exact ⟨m,by simp; omega,(jI hm).trans he⟩
   ·rintro ⟨m,hm,he⟩;rcases Nat.lt_or_ge m (idx b.wrote (j:Int)).length with h1 | h1
    ·exact .inr ⟨m,h1,(jI h1).symm.trans he⟩
    ·simp at hm
     rw [iZ (by omega)] at he
     rw [he]; exact .inl rfl
  ·rw [if_neg e]
   constructor
   ·rintro (he | hh)
    ·injection he with h1 h2
     exact absurd (h.nd j k hj hk (h1.trans hs.symm)) e
    ·exact hh
   ·exact .inr
 ·intro x y hh
  dsimp only at hh ⊢
  rcases uO.1 hh with he | hh
  ·injection he with h1 h2
   exact ⟨k,hk,hs.trans h1.symm⟩
  ·exact h.fout x y hh
 ·intro j hj
  dsimp only at hj ⊢
  rw [w1 j]
  have:=h.wn j hj
  split
  ·rename_i e; subst e; simp; omega
  ·omega
theorem Sim.inc {g:aW} {b:aD} {n k:Nat} (h:Sim g b n) {s:ByteArray} {a:Int} (hk:k < b.keys.length) (hs:idx b.keys (k:Int)=s) (h8:(mat g.incs s).length < 8) :
  Sim ⟨g.keys,g.at_,g.types,g.facts,fG g.incs s (mat g.incs s++[a])⟩ ⟨b.keys,b.types,b.wrote,b.incs.set k (idx b.incs (k:Int) + 1),b.last_.set k a⟩ n:=by
 have i1:∀ j:Nat,idx (b.incs.set k (idx b.incs (k:Int) + 1)) (j:Int)=if j=k then idx b.incs (k:Int) + 1 else idx b.incs (j:Int):=fun j=>qA (by rw [h.il]; exact hk);have l1:∀ j:Nat,idx (b.last_.set k a) (j:Int)=if j=k then a else idx b.last_ (j:Int):=fun j=>qA (by rw [h.ll]; exact hk);have hne:∀ j:Nat,j < b.keys.length→j≠k→idx b.keys (j:Int)≠s:=fun j hj e he=>e (h.nd j k hj hk (he.trans hs.symm));refine ⟨h.keys,h.types,h.len,h.tl,h.wl,by simp [h.il],by simp [h.ll],h.nd,h.has,h.at_,h.facts,h.fout,h.wn,?_,?_,?_,?_⟩
 ·intro j hj
  dsimp only at hj ⊢
  rw [ol,i1 j]
  by_cases e:j=k
  ·subst e
   rw [if_pos hs,if_pos rfl,← h.incs j hj,hs]; simp
  ·rw [if_neg (hne j hj e),if_neg e]; exact h.incs j hj
 ·intro j hj
  dsimp only at hj ⊢
  rw [ol]
  by_cases e:j=k
  ·subst e
   rw [if_pos hs]; simp; omega
  ·rw [if_neg (hne j hj e)]; exact h.i8 j hj
 ·intro x hx
  dsimp only at hx ⊢
  rw [ol,if_neg (fun e=>hx k hk (hs.trans e.symm))]
  exact h.iout x hx
 ·intro j hj
  dsimp only at hj ⊢
  rw [ol,l1 j]
  by_cases e:j=k
  ·subst e
   rw [if_pos hs,if_pos rfl]
   refine ⟨fun h0=>by simp at h0,fun _ => ?_⟩
   rw [iZ (by simp)]
  ·rw [if_neg (hne j hj e),if_neg e]; exact h.last j hj
theorem CW {c:Call} {who:Int} {a5:List ByteArray} {a4:List Int} {a1:List (List Int)} {a3 a2:List Int} {k:Nat} {Q:Int×aD→Prop} (hk:k < a1.length) (hb:(idx a1 (k:Int)).length≤4096)
  (h1:(∃ m:Nat,m < (idx a1 (k:Int)).length∧idx (idx a1 (k:Int)) (m:Int)=c.Arg)→Q (3,⟨a5,a4,a1,a3,a2⟩))
  (h2:(¬ ∃ m:Nat,m < (idx a1 (k:Int)).length∧idx (idx a1 (k:Int)) (m:Int)=c.Arg)→Tri (dP c who a5 a4 a3 a2 (k:Int) (a1.set k (idx a1 (k:Int)++[c.Arg]))) Q) :
  Tri (iter (fH c who a5 a4 a1 a3 a2 (k:Int)) 0) Q:=by
 refine jX (idx a1 (k:Int)).length (fun m=>idx (idx a1 (k:Int)) (m:Int)≠c.Arg) ?_;intro m hm hJ;unfold fH
 dsimp only
 rw [Int.toNat_natCast]
 repeat' (first | contradiction | with_reducible refine ay (fun hq => ?_) (fun hq => ?_) | with_reducible refine ai (by first | omega | grind [bD]) ?_ | with_reducible refine aI ?_ | with_reducible refine bE ?_ | with_reducible refine bR ?_ | with_reducible refine bP ?_ | with_reducible refine bU ?_ | with_reducible refine ah ?_)
 ·exact h1 ⟨m,by omega,by assumption⟩
 ·grind [Nxt,bD]
 ·exact h2 (by grind)
def Both (r:Int×aW) (n:Nat) (r':Int×aD):Prop:=r.1=r'.1∧(r.1=0→Sim r.2 r'.2 n)
def CX (b:aD) (c:Call) (who:Int) (k:Nat) (r:Int×aD):Prop :=
 (idx b.types (k:Int)≠typ c.Kind∧r=(50,b)) ∨
 (idx b.types (k:Int)=typ c.Kind∧(c.Kind=2∨c.Kind=3)∧(∃ m:Nat,m < (idx b.wrote (k:Int)).length∧idx (idx b.wrote (k:Int)) (m:Int)=c.Arg)∧r=(3,b)) ∨
 (idx b.types (k:Int)=typ c.Kind∧(c.Kind=2∨c.Kind=3)∧(¬ ∃ m:Nat,m < (idx b.wrote (k:Int)).length∧idx (idx b.wrote (k:Int)) (m:Int)=c.Arg) ∧
  r=(0,⟨b.keys,b.types,b.wrote.set k (idx b.wrote (k:Int)++[c.Arg]),b.incs,b.last_⟩)) ∨
 (idx b.types (k:Int)=typ c.Kind∧c.Kind=4∧idx b.last_ (k:Int)≠who∧idx b.incs (k:Int) + 1 > 8∧r.1=51) ∨
 (idx b.types (k:Int)=typ c.Kind∧c.Kind=4∧idx b.last_ (k:Int)≠who∧idx b.incs (k:Int) + 1≤8 ∧
  r=(0,⟨b.keys,b.types,b.wrote,b.incs.set k (idx b.incs (k:Int) + 1),b.last_.set k who⟩)) ∨
 (idx b.types (k:Int)=typ c.Kind∧c.Kind=4∧idx b.last_ (k:Int)=who∧r=(0,b)) ∨
 (idx b.types (k:Int)=typ c.Kind∧c.Kind≠2∧c.Kind≠3∧c.Kind≠4∧r=(0,b))
theorem AP {b:aD} {k:Nat} {c:Call} {who:Int} (hk:k < b.keys.length) (t1:b.types.length=b.keys.length) (t2:b.wrote.length=b.keys.length) (t3:b.incs.length=b.keys.length)
  (t4:b.last_.length=b.keys.length) (hwr:(idx b.wrote (k:Int)).length≤4096) (hin:0≤idx b.incs (k:Int)∧idx b.incs (k:Int)≤8)
  (h1:1≤c.Kind) (h8:c.Kind≤8):Tri (dD c who b.keys b.types b.wrote b.incs b.last_ (k:Int)) (CX b c who k):=by
 have e1:w64 (idx b.incs (k:Int) + 1)=idx b.incs (k:Int) + 1:=bD (by omega) (by omega);have e2:idx (b.incs.set k (idx b.incs (k:Int) + 1)) (k:Int)=idx b.incs (k:Int) + 1:=by rw [qA (by omega),if_pos rfl]
 unfold dD fI dP eH eG
 simp only [cond_true,cond_false,yJ h1 h8,Int.toNat_natCast,e1,e2]
 repeat' (first | contradiction | with_reducible refine ay (fun hq => ?_) (fun hq => ?_) | with_reducible refine ai (by first | omega | grind [bD]) ?_ | with_reducible refine aI ?_ | with_reducible refine bE ?_ | with_reducible refine bR ?_ | with_reducible refine bP ?_ | with_reducible refine bU ?_ | with_reducible refine ah ?_ | refine CW (by omega) hwr (fun h => ?_) (fun h => ?_))
 all_goals try unfold dP eH eG
 all_goals try simp only [cond_true,cond_false,Int.toNat_natCast,e1,e2]
 repeat' (first | contradiction | with_reducible refine ay (fun hq => ?_) (fun hq => ?_) | with_reducible refine ai (by first | omega | grind [bD]) ?_ | with_reducible refine aI ?_ | with_reducible refine bE ?_ | with_reducible refine bR ?_ | with_reducible refine bP ?_ | with_reducible refine bU ?_ | with_reducible refine ah ?_)
 all_goals grind [CX]
theorem enter_at {g:aW} {b:aD} {n k:Nat} {a0:aW} {c:Call} {who:Int} (h:Sim g b n) (hf:a0.facts=g.facts) (hi:a0.incs=g.incs) (hk:k < b.keys.length) (hs:idx b.keys (k:Int)=c.Key)
  (h1:1≤c.Kind) (h8:c.Kind≤8) (hw:0≤who) (hn:n≤2048) :
  Tri (fO a0 c who g.keys g.at_ g.types (k:Int)) (fun r=>Tri (dD c who b.keys b.types b.wrote b.incs b.last_ (k:Int)) (Both r (n + 1))):=by
 obtain ⟨gk,ga,gt,gf,gi⟩:=g
 dsimp only at hf hi
 have htl:=h.types;have hkk:=h.keys
 dsimp only at htl hkk ⊢
 subst htl hkk;have t1:=h.tl;have t2:=h.wl;have t3:=h.il;have t4:=h.ll;have hfa:=h.facts k hk c.Arg;have hin:=h.incs k hk;have a1:=h.i8 k hk;have hla:=h.last k hk;have hwr:=h.wn k hk
 rw [hs] at hfa hin a1 hla
 dsimp only at hfa hin a1 hla
 obtain ⟨r',hr',spec⟩:=AP (who:=who) hk t1 t2 t3 t4 (by omega) (by omega) h1 h8;have s0:=h.mono (Nat.le_succ n);have s1:=h.write (a:=c.Arg) hk hs;have s2:(mat gi c.Key).length < 8→_:=fun hl=>(h.inc (a:=who) hk hs hl).mono (Nat.le_succ n)
 dsimp only at s1 s2
 have e3:0 < (mat gi c.Key).length→w64 (((mat gi c.Key).length:Int) - 1)=(((mat gi c.Key).length - 1:Nat):Int):=fun h=>nW (by omega) (by omega);have m1:mat (fG gi c.Key (mat gi c.Key++[who])) c.Key=mat gi c.Key++[who]:=by rw [ol,if_pos rfl]
 unfold fO iO kD iL iI fM
 simp only [cond_true,cond_false,uG h1 h8,hf,hi,m1]
 repeat' (first | contradiction | with_reducible refine ay (fun hq => ?_) (fun hq => ?_) | with_reducible refine ai (by first | omega | grind [bD]) ?_ | with_reducible refine aI ?_ | with_reducible refine bE ?_ | with_reducible refine bR ?_ | with_reducible refine bP ?_ | with_reducible refine bU ?_ | with_reducible refine ah ?_)
 all_goals refine ⟨r',hr',?_⟩
 all_goals unfold CX at spec
 all_goals simp only [Both]
 all_goals grind
theorem CY {g:aW} {b:aD} {n:Nat} {c:Call} {who:Int} (h:Sim g b n) (h1:1≤c.Kind) (h8:c.Kind≤8) (hw:0≤who) (hn:n≤2048) :
  Tri (aA g c who) (fun r=>Tri (ag b c who) (Both r (n + 1))):=by
 have hl:=h.len;have t1:=h.tl;have t2:=h.wl;have t3:=h.il;have t4:=h.ll;have hk:=h.keys;have ht:=h.types;obtain ⟨r0,a3,hf⟩:=xM (l:=b.keys) (s:=c.Key) (by omega);rcases hf with ⟨rfl,hno⟩ | ⟨k,rfl,a1,a2,_⟩
 ·have hm:¬ ku g.at_ c.Key=true:=fun hh=>by
   obtain ⟨j,hj,he⟩:=(h.has c.Key).1 hh;exact hno j hj he
  unfold aA ag kE
  simp only [a3,uG h1 h8,hk,ht]
  refine ay (fun _ => ?_) (fun hh=>absurd hm hh);refine ay (fun a4 => ?_) (fun a4 => ?_)
  ·refine ah (bE ?_)
   repeat' (first | contradiction | with_reducible refine ay (fun hq => ?_) (fun hq => ?_) | with_reducible refine ai (by first | omega | grind [bD]) ?_ | with_reducible refine aI ?_ | with_reducible refine bE ?_ | with_reducible refine bR ?_ | with_reducible refine bP ?_ | with_reducible refine bU ?_ | with_reducible refine ah ?_)
   ·exact ⟨rfl,fun h=>by cases h⟩
   ·omega
  ·have hS:=h.new (s:=c.Key) (t:=typ c.Kind) hno (by omega)
   rw [hk,ht] at hS
   have he:=enter_at (a0:=g) (who:=who) hS rfl rfl (k:=b.keys.length) (by simp) (iZ rfl) h1 h8 hw hn
   dsimp only at he
   refine ai (by omega) (bE (ai (by omega) ?_));refine dO he (fun r hr => ?_);unfold fK fJ
   simp only [yJ h1 h8]
   repeat' (first | contradiction | with_reducible refine ay (fun hq => ?_) (fun hq => ?_) | with_reducible refine ai (by first | omega | grind [bD]) ?_ | with_reducible refine aI ?_ | with_reducible refine bE ?_ | with_reducible refine bR ?_ | with_reducible refine bP ?_ | with_reducible refine bU ?_ | with_reducible refine ah ?_ | exact hr)
   omega
 ·have hm:ku g.at_ c.Key=true:=(h.has c.Key).2 ⟨k,a1,a2⟩;have hat:mat g.at_ c.Key=(k:Int):=by rw [← a2]; exact h.at_ k a1
  have he:=enter_at (a0:=g) (who:=who) h rfl rfl a1 a2 h1 h8 hw hn;unfold aA ag
  simp only [a3,hat]
  refine ay (fun hh=>absurd hm hh) (fun _ => ?_);refine dO he (fun r hr=>bE ?_)
  repeat' (first | contradiction | with_reducible refine ay (fun hq => ?_) (fun hq => ?_) | with_reducible refine ai (by first | omega | grind [bD]) ?_ | with_reducible refine aI ?_ | with_reducible refine bE ?_ | with_reducible refine bR ?_ | with_reducible refine bP ?_ | with_reducible refine bU ?_ | with_reducible refine ah ?_ | exact hr)
abbrev GS:=List ByteArray×(List (ByteArray×Int))×List Int×(List (bV×Unit))×(List (ByteArray×(List Int)))×Int
abbrev BS:=List ByteArray×List Int×(List (List Int))×List Int×List Int×Int
def BJ (g:aW) (x:Int):GS:=(g.keys,g.at_,g.types,g.facts,g.incs,x)
def wO (b:aD) (x:Int):BS:=(b.keys,b.types,b.wrote,b.incs,b.last_,x)
def Go1 (i n:Nat):GS ⊕ (Int ⊕ Int)→(List Call×Int) ⊕ (BS ⊕ Int)→Prop
 | .inl s,.inr (.inl t)=>∃ g b,s=BJ g ((i + 1:Nat):Int)∧t=wO b ((i + 1:Nat):Int)∧Sim g b n
 | .inr (.inr a),.inr (.inr b)=>a=1∧b=1
 | _,_=>False
theorem enters {g:aW} {b:aD} {n i:Nat} {l:List Call} {y:Event×Bool} (h:Sim g b n) (hy:y.1.Calls=l) (hl:l.length≤16) (hi:i < 64) (hn:n≤1024) (hc:qN l (fun c=>1≤c.Kind∧c.Kind≤8)) :
  Tri (iter (nG (i:Int) y) (BJ g 0)) (fun x=>Tri (iter (ed (i:Int) l) (wO b 0)) (Go1 i (n + 16) x)):=by
 refine Am l.length (fun k s t=>∃ g b,s=BJ g (k:Int)∧t=wO b (k:Int)∧Sim g b (n + k)) (Nat.zero_le _) ⟨g,b,rfl,rfl,h⟩ ?_;rintro k s t hk ⟨g,b,rfl,rfl,hS⟩;unfold nG ed BJ wO
 dsimp only
 rw [hy]
 refine ay (fun h => ?_) (fun h => ?_)
 ·refine ai (by omega) ?_;obtain ⟨r,hr,r',hr',hb⟩:=CY (who:=(i:Int)) hS (hc k (by omega)).1 (hc k (by omega)).2 (by omega) (by omega);refine dC hr ?_;have hw:w64 ((k:Int) + 1)=((k + 1:Nat):Int):=aX (by omega)
  rw [hw]
  repeat' (first | contradiction | with_reducible refine ay (fun hq => ?_) (fun hq => ?_) | with_reducible refine ai (by first | omega | grind [bD]) ?_ | with_reducible refine aI ?_ | with_reducible refine bE ?_ | with_reducible refine bR ?_ | with_reducible refine bP ?_ | with_reducible refine bU ?_ | with_reducible refine ah ?_ | refine dC hr' ?_)
  ·exact ⟨rfl,rfl⟩
  ·exact absurd (by rw [hb.1]; omega) ‹r.1≠0›
  ·exact absurd (by rw [← hb.1]; omega) ‹r'.1≠0›
  ·exact ⟨by omega,r.2,r'.2,rfl,rfl,hb.2 (by omega)⟩
 ·have hw:w64 ((i:Int) + 1)=((i + 1:Nat):Int):=aX (by omega)
  rw [hw]
  repeat' (first | contradiction | with_reducible refine ay (fun hq => ?_) (fun hq => ?_) | with_reducible refine ai (by first | omega | grind [bD]) ?_ | with_reducible refine aI ?_ | with_reducible refine bE ?_ | with_reducible refine bR ?_ | with_reducible refine bP ?_ | with_reducible refine bU ?_ | with_reducible refine ah ?_)
  exact ⟨g,b,rfl,rfl,hS.mono (by omega)⟩
theorem AQ {h:History} {i:Nat} {b:aD} {Q:BS ⊕ Int→Prop} (hi:i < h.Txns.length) (hs:zg (idx h.Txns (i:Int))) (a2:(idx h.Txns (i:Int)).Ops.length≤16)
  (h1:¬ (tF h (idx h.Txns (i:Int))∧vX (vJ h (idx h.Txns (i:Int))))→Q (.inr 1))
  (h2:tF h (idx h.Txns (i:Int))→vX (vJ h (idx h.Txns (i:Int)))→Tri (iter (ed (i:Int) (cB h (idx h.Txns (i:Int)))) (wO b 0)) (fun x=>match x with | .inl _=>False | .inr y=>Q y)) :
  Tri (iter (eu h b.keys b.types b.wrote b.incs b.last_ (i:Int)) ([],0)) Q:=by
 generalize ht:idx h.Txns (i:Int)=t at hs a2 h1 h2;refine wY t.Ops.length (fun k l=>l=(cB h t).take k∧∀ j:Nat,j < k→0≤(idx t.Ops (j:Int)).Key∧(idx t.Ops (j:Int)).Key < (h.Keys.length:Int)) ⟨rfl,by omega⟩ ?_
 rintro k l hk ⟨rfl,hJ⟩;have hlen:((cB h t).take k).length=k:=by simp [cB]; omega
 unfold eu jm lq
 simp only [cond_true,cond_false,hlen,ht]
 have hsm:=yA (e:=⟨0,t.Status,(cB h t).take k⟩) (hs.small k);have hfull:k=t.Ops.length→(cB h t).take k=cB h t:=fun e=>List.take_of_length_le (by simp [cB]; omega);have hnext:k < t.Ops.length→(cB h t).take (k + 1)=(cB h t).take k++[uE h (idx t.Ops (k:Int))]:=fun hk=>by
  rw [lI (by simpa [cB] using hk),cB,vo hk]
 have hw:w64 ((k:Int) + 1)=((k + 1:Nat):Int):=aX (by omega)
 rw [hw]
 repeat' (first | contradiction | with_reducible refine ay (fun hq => ?_) (fun hq => ?_) | with_reducible refine ai (by first | omega | grind [bD]) ?_ | with_reducible refine aI ?_ | with_reducible refine bE ?_ | with_reducible refine bR ?_ | with_reducible refine bP ?_ | with_reducible refine bU ?_ | with_reducible refine ah ?_ | refine cZ hsm (fun r hr => ?_))
 ·grind [Up2,tF,qN]
 ·grind [Up2,tF,qN]
 ·grind [Up2,uE]
 ·have a1:k=t.Ops.length:=by omega
  rw [hfull a1] at hr
  refine h1 (fun hh => ?_);have:=hr.1.2 hh.2
  contradiction
 ·have a1:k=t.Ops.length:=by omega
  rw [hfull a1] at hr ⊢
  have hK:tF _ t:=fun j hj=>hJ j (by omega);refine dO (h2 hK (hr.1.1 (by omega))) ?_;rintro (x | y) hxy
  ·exact hxy.elim
  ·exact hxy
def wP (h:History) (i:Nat):Prop:=uF h.Txns i∧tF h (idx h.Txns (i:Int))∧vX (vJ h (idx h.Txns (i:Int)))
def nY (h:History):Prop:=h.Keys.length * 16≤140737488351232∧h.Txns.length * 56≤140737488351232∧qN h.Txns zg
theorem EE {h:History} (hs:nY h) (hN:nX h.Keys) (b0:h.Txns.length≤32) :
  Tri (iter (kW h) (BJ ⟨[],[],[],[],[]⟩ 0)) (fun x=>Tri (iter (gL h) (wO ⟨[],[],[],[],[]⟩ 0)) (fun y=>(∃ v,x = .inr v∧v=y)∧(y=0∨y=1))):=by
 obtain ⟨a9,a8,a2⟩:=hs;refine Am h.Txns.length (fun k s t=>∃ g b,s=BJ g (k:Int)∧t=wO b (k:Int)∧Sim g b (k * 16)∧∀ j:Nat,j < k→wP h j) (Nat.zero_le _) ⟨_,_,rfl,rfl,Sim.start,fun j hj=>absurd hj (Nat.not_lt_zero _)⟩ ?_;rintro k s t hk ⟨g,b,rfl,rfl,hS,hJ⟩;unfold kW nH gL gJ BJ wO
 simp only [cond_true,cond_false]
 refine ay (fun a7 => ?_) (fun a7 => ?_)
 ·have a1:k < h.Txns.length:=by omega
  obtain ⟨r,hr,a4,a6⟩:=xL (h:=h) (a2 k a1);obtain ⟨p,hp,a5⟩:=wN (l:=h.Txns) a1 (by omega);obtain ⟨p',hp',hp1'⟩:=uf (l:=h.Txns) a1 (by omega);have hco:vX (vJ h (idx h.Txns (k:Int)))→(idx h.Txns (k:Int)).Ops.length≤16:=fun he=>by
   have:=he.2.2.1
   simpa [vJ,cB] using this
  refine ai (by omega) (dC hr ?_)
  by_cases hok:wP h k
  ·have e1:r.2=true:=a4.2 ⟨hok.2.1,hok.2.2⟩;have e2:p=true:=a5.2 hok.1;have e3:p'=true:=hp1'.2 hok.1;have hc:qN (cB h (idx h.Txns (k:Int))) (fun c=>1≤c.Kind∧c.Kind≤8):=fun j hj=>⟨(hok.2.2.2.2.2 j hj).1,(hok.2.2.2.2.2 j hj).2.1⟩;obtain ⟨x,hx,y,hy,hxy⟩:=enters (y:=r) (i:=k) hS (congrArg Event.Calls (a6 e1)) hok.2.2.2.2.1 (by omega) (by omega) hc;refine ay (fun h=>absurd e1 h) (fun _ => ?_);refine ai (by omega) (dC hp ?_);refine ay (fun h=>absurd e2 h) (fun _ => ?_);refine ⟨x,hx,?_⟩
   repeat' (first | contradiction | with_reducible refine ay (fun hq => ?_) (fun hq => ?_) | with_reducible refine ai (by first | omega | grind [bD]) ?_ | with_reducible refine aI ?_ | with_reducible refine bE ?_ | with_reducible refine bR ?_ | with_reducible refine bP ?_ | with_reducible refine bU ?_ | with_reducible refine ah ?_ | refine dC hp' ?_)
   ·exact absurd (hco hok.2.2) (by omega)
   ·refine AQ a1 (a2 k a1) (hco hok.2.2) (fun hn=>absurd ⟨hok.2.1,hok.2.2⟩ hn) (fun _ _=>⟨y,hy,?_⟩);rcases x with s | a | a <;> rcases y with t | t | t
    ·exact hxy.elim
    ·obtain ⟨g',b',rfl,rfl,hS'⟩:=hxy;refine ⟨by omega,g',b',rfl,rfl,(show k * 16 + 16=(k + 1) * 16 by omega) ▸ hS',fun j hj => ?_⟩
     rcases Nat.lt_or_ge j k with h1 | h1
     ·exact hJ j h1
     ·rw [show j=k by omega]; exact hok
    ·exact hxy.elim
    ·exact hxy.elim
    ·exact hxy.elim
    ·exact hxy.elim
    ·exact hxy.elim
    ·exact hxy.elim
    ·obtain ⟨rfl,rfl⟩:=hxy;exact ⟨⟨1,rfl,rfl⟩,.inr rfl⟩
  ·have h1:Tri (iter (eu h b.keys b.types b.wrote b.incs b.last_ (k:Int)) ([],0)) (fun y=>p'=true→(idx h.Txns (k:Int)).Ops.length≤16→y = .inr 1) ∨ ¬ ((idx h.Txns (k:Int)).Ops.length≤16) ∨ ¬ p'=true:=by
    by_cases a3:(idx h.Txns (k:Int)).Ops.length≤16
    ·by_cases h3:p'=true
     ·refine .inl (AQ a1 (a2 k a1) a3 (fun _ _ _=>rfl) (fun q1 q2=>absurd ⟨hp1'.1 h3,q1,q2⟩ hok))
     ·exact .inr (.inr h3)
    ·exact .inr (.inl a3)
   have hend:Tri (aK h.Txns (k:Int)) (fun y=>Tri (bif !y then (out (some 1):Option (BS ⊕ Int)) else bif decide ((((idx h.Txns (k:Int)).Ops).length:Int) > 16) then out (some 1) else iter (eu h b.keys b.types b.wrote b.incs b.last_ (k:Int)) ([],0)) (fun y=>y = .inr 1)):=by
    refine ⟨p',hp',?_⟩
    repeat' (first | contradiction | with_reducible refine ay (fun hq => ?_) (fun hq => ?_) | with_reducible refine ai (by first | omega | grind [bD]) ?_ | with_reducible refine aI ?_ | with_reducible refine bE ?_ | with_reducible refine bR ?_ | with_reducible refine bP ?_ | with_reducible refine bU ?_ | with_reducible refine ah ?_)
    ·rfl
    ·rfl
    ·rcases h1 with h1 | h1 | h1
     ·exact dO h1 (fun y hy=>hy (Decidable.of_not_not ‹¬¬p'=true›) (by omega))
     ·omega
     ·contradiction
   have hend2:∀ {Q:BS ⊕ Int→Prop},Q (.inr 1)→Tri ((aK h.Txns (k:Int)).bind fun y=>bif !y then (out (some 1):Option (BS ⊕ Int)) else bif decide ((((idx h.Txns (k:Int)).Ops).length:Int) > 16) then out (some 1) else iter (eu h b.keys b.types b.wrote b.incs b.last_ (k:Int)) ([],0)) Q:=by
    intro Q hQ;refine cZ hend (fun y hy=>dO hy ?_);rintro _ rfl;exact hQ
   repeat' (first | contradiction | with_reducible refine ay (fun hq => ?_) (fun hq => ?_) | with_reducible refine ai (by first | omega | grind [bD]) ?_ | with_reducible refine aI ?_ | with_reducible refine bE ?_ | with_reducible refine bR ?_ | with_reducible refine bP ?_ | with_reducible refine bU ?_ | with_reducible refine ah ?_ | refine dC hp ?_)
   ·refine hend2 ?_;exact ⟨⟨1,rfl,rfl⟩,.inr rfl⟩
   ·refine hend2 ?_;exact ⟨⟨1,rfl,rfl⟩,.inr rfl⟩
   ·exact absurd ⟨a5.1 (by grind),a4.1 (by grind)⟩ hok
 ·repeat' (first | contradiction | with_reducible refine ay (fun hq => ?_) (fun hq => ?_) | with_reducible refine ai (by first | omega | grind [bD]) ?_ | with_reducible refine aI ?_ | with_reducible refine bE ?_ | with_reducible refine bR ?_ | with_reducible refine bP ?_ | with_reducible refine bU ?_ | with_reducible refine ah ?_)
  exact ⟨⟨0,rfl,rfl⟩,.inl rfl⟩
theorem xN {h:History} (hs:nY h):Tri (aN h) (fun v=>Tri (au h) (fun v'=>v=v'∧(v=0∨v=1))):=by
 obtain ⟨a3,a2,a4⟩:=hs;obtain ⟨y,hy,hn⟩:=zh (l:=h.Keys) (by omega);have hT:=fun hN a1=>EE (h:=h) ⟨a3,a2,a4⟩ hN a1;have hfail:¬ (nX h.Keys∧h.Txns.length≤32)→au h=some 1:=by
  intro hno;refine gN.1 ?_;unfold au fo
  simp only [cond_true,cond_false]
  repeat' (first | contradiction | with_reducible refine ay (fun hq => ?_) (fun hq => ?_) | with_reducible refine ai (by first | omega | grind [bD]) ?_ | with_reducible refine aI ?_ | with_reducible refine bE ?_ | with_reducible refine bR ?_ | with_reducible refine bP ?_ | with_reducible refine bU ?_ | with_reducible refine ah ?_ | refine dC hy ?_)
  ·rfl
  ·rfl
  ·exact absurd ⟨hn.1 (Decidable.of_not_not ‹¬¬y=true›),by omega⟩ hno
 have hgood:nX h.Keys→h.Txns.length≤32→Tri (iter (kW h) (BJ ⟨[],[],[],[],[]⟩ 0)) (fun x=>Tri (au h) (fun v'=>x = .inr v'∧(v'=0∨v'=1))):=by
  intro hN a1;refine dO (hT hN a1) (fun x hx => ?_);unfold au fo
  simp only [cond_true,cond_false]
  have:=hn.2 hN
  repeat' (first | contradiction | with_reducible refine ay (fun hq => ?_) (fun hq => ?_) | with_reducible refine ai (by first | omega | grind [bD]) ?_ | with_reducible refine aI ?_ | with_reducible refine bE ?_ | with_reducible refine bR ?_ | with_reducible refine bP ?_ | with_reducible refine bU ?_ | with_reducible refine ah ?_ | refine dC hy ?_)
  ·omega
  ·refine dO hx (fun v hv => ?_);obtain ⟨⟨v2,rfl,rfl⟩,h2⟩:=hv;exact ⟨rfl,h2⟩
 have hbad:¬ (nX h.Keys∧h.Txns.length≤32)→Tri (au h) (fun v'=>(1:Int)=v'∧((1:Int)=0∨(1:Int)=1)):=fun hno=>⟨1,hfail hno,rfl,.inr rfl⟩;unfold aN nI
 simp only [cond_true,cond_false]
 repeat' (first | contradiction | with_reducible refine ay (fun hq => ?_) (fun hq => ?_) | with_reducible refine ai (by first | omega | grind [bD]) ?_ | with_reducible refine aI ?_ | with_reducible refine bE ?_ | with_reducible refine bR ?_ | with_reducible refine bP ?_ | with_reducible refine bU ?_ | with_reducible refine ah ?_)
 ·exact hbad (fun hh=>by have:=hh.1.1; omega)
 ·exact hbad (fun hh=>by have:=hh.2; omega)
 ·refine jX h.Keys.length (vY h.Keys) ?_;intro k hk hJ;unfold qg kV
  simp only [cond_true,cond_false]
  have hf:k < h.Keys.length→Tri (slices_Contains_string (di h.Keys 0 (k:Int)) (idx h.Keys (k:Int))) (fun r=>r=true↔∃ j:Nat,j < k∧idx h.Keys (j:Int)=idx h.Keys (k:Int)):=by
   intro hk'
   rw [mX (by omega)]
   refine dO (zT (by simp; omega)) (fun r hr => ?_);have ht:(h.Keys.take k).length=k:=by simp; omega
   have hx:∀ j:Nat,j < k→idx (h.Keys.take k) (j:Int)=idx h.Keys (j:Int):=fun j h=>qz h
   rw [ht] at hr
   grind
  have he:=Af (k:=idx h.Keys (k:Int));have hw:w64 ((k:Int) + 1)=((k + 1:Nat):Int):=aX (by omega)
  rw [hw]
  have hNk:vY h.Keys k↔(1≤(idx h.Keys (k:Int)).size∧(idx h.Keys (k:Int)).size≤32∧∀ j:Nat,j < k→idx h.Keys (j:Int)≠idx h.Keys (k:Int)):=Iff.rfl;have hno:k < h.Keys.length → ¬ vY h.Keys k → ¬ (nX h.Keys∧h.Txns.length≤32):=fun h1 h2 h3=>h2 (h3.1.2 k h1);refine ay (fun a5 => ?_) (fun a5 => ?_)
  ·refine ai (by omega) ?_
   repeat' (first | contradiction | with_reducible refine ay (fun hq => ?_) (fun hq => ?_) | with_reducible refine ai (by first | omega | grind [bD]) ?_ | with_reducible refine aI ?_ | with_reducible refine bE ?_ | with_reducible refine bR ?_ | with_reducible refine bP ?_ | with_reducible refine bU ?_ | with_reducible refine ah ?_ | refine cZ (hf (by omega)) (fun r hr => ?_))
   ·exact hbad (hno (by omega) (by grind))
   ·exact hbad (hno (by omega) (by grind))
   ·exact hbad (hno (by omega) (by grind))
   ·exact ⟨rfl,by omega,by grind⟩
  ·have hN:nX h.Keys:=⟨by omega,fun i hi=>hJ i (by omega)⟩
   unfold mr;refine bE ?_;obtain ⟨x,hx,v,hv,hq⟩:=hgood hN (by omega);obtain ⟨rfl,h2⟩:=hq;exact ⟨_,hx,v,hv,rfl,h2⟩
end Go.Proofs.YtmfgddafcgflaaaGreatT
namespace Go.Proofs.YtmfgddafcgflaaaGreatT
open Go Go.Proofs Go.Proofs.YtmfgddafcgflaaaGreatE
set_option linter.unusedVariables false
set_option linter.unusedSimpArgs false
def nZ (l:List Int) (c:Call) (w:Int) (s:ByteArray):List Int:=if c.Kind=4∧c.Key=s∧(l.length=0∨idx l ((l.length - 1:Nat):Int)≠w) then l++[w] else l
def jW (E:List (Call×Int)) (s:ByteArray):List Int:=E.foldl (fun l e=>nZ l e.1 e.2 s) []
theorem xO {E:List (Call×Int)} {c:Call} {w:Int} {s:ByteArray}:jW (E++[(c,w)]) s=nZ (jW E s) c w s:=by
 unfold jW; rw [List.foldl_append]; rfl
theorem qo {l:List Int} {c:Call} {w:Int} {s:ByteArray} (h:¬ (c.Kind=4∧c.Key=s)):nZ l c w s=l:=by
 unfold nZ; rw [if_neg (fun hh=>h ⟨hh.1,hh.2.1⟩)]
def FM (E:List (Call×Int)) (c:Call) (w:Int):Prop :=
 ((c.Kind=2∨c.Kind=3)→∀ e ∈ E,e.1.Key=c.Key→(e.1.Kind=2∨e.1.Kind=3)→e.1.Arg≠c.Arg)∧(c.Kind=4→(nZ (jW E c.Key) c w c.Key).length≤8)
def DX (E:List (Call×Int)) (c:Call) (w:Int):Prop:=(∀ e ∈ E,e.1.Key=c.Key→typ e.1.Kind=typ c.Kind)∧FM E c w
structure BookInv0 (E:List (Call×Int)) (b:aD):Prop where
 tl:b.types.length=b.keys.length
 wl:b.wrote.length=b.keys.length
 il:b.incs.length=b.keys.length
 ll:b.last_.length=b.keys.length
 nd:∀ i j:Nat,i < b.keys.length→j < b.keys.length→idx b.keys (i:Int)=idx b.keys (j:Int)→i=j
 ks:∀ e ∈ E,∃ j:Nat,j < b.keys.length∧idx b.keys (j:Int)=e.1.Key
 ty:∀ e ∈ E,∀ j:Nat,j < b.keys.length→idx b.keys (j:Int)=e.1.Key→idx b.types (j:Int)=typ e.1.Kind
 wr:∀ j:Nat,j < b.keys.length→∀ a,(∃ m:Nat,m < (idx b.wrote (j:Int)).length∧idx (idx b.wrote (j:Int)) (m:Int)=a)↔∃ e ∈ E,e.1.Key=idx b.keys (j:Int)∧(e.1.Kind=2∨e.1.Kind=3)∧e.1.Arg=a
 wn:∀ j:Nat,j < b.keys.length→(idx b.wrote (j:Int)).length≤E.length
 ic:∀ j:Nat,j < b.keys.length→idx b.incs (j:Int)=((jW E (idx b.keys (j:Int))).length:Int)
 i8:∀ j:Nat,j < b.keys.length→(jW E (idx b.keys (j:Int))).length≤8
 io:∀ s,(∀ j:Nat,j < b.keys.length→idx b.keys (j:Int)≠s)→jW E s=[]
 la:∀ j:Nat,j < b.keys.length→((jW E (idx b.keys (j:Int))).length=0→idx b.last_ (j:Int) = -1) ∧
  (0 < (jW E (idx b.keys (j:Int))).length→idx b.last_ (j:Int)=idx (jW E (idx b.keys (j:Int))) (((jW E (idx b.keys (j:Int))).length - 1:Nat):Int))
theorem BookInv0.start:BookInv0 [] ⟨[],[],[],[],[]⟩:=by
 refine ⟨rfl,rfl,rfl,rfl,?_,?_,?_,?_,?_,?_,?_,?_,?_⟩
 all_goals simp [jW]
theorem BookInv0.new {E:List (Call×Int)} {b:aD} (h:BookInv0 E b) {s:ByteArray} {t:Int} (hn:∀ j:Nat,j < b.keys.length→idx b.keys (j:Int)≠s) :
  BookInv0 E ⟨b.keys++[s],b.types++[t],b.wrote++[[]],b.incs++[0],b.last_++[-1]⟩:=by
 have hl:(b.keys++[s]).length=b.keys.length + 1:=by simp
 have k1:∀ j:Nat,j < b.keys.length→idx (b.keys++[s]) (j:Int)=idx b.keys (j:Int):=fun j hj=>jI hj;have k2:idx (b.keys++[s]) ((b.keys.length:Nat):Int)=s:=iZ rfl;have t1:∀ j:Nat,j < b.keys.length→idx (b.types++[t]) (j:Int)=idx b.types (j:Int):=fun j hj=>jI (by rw [h.tl]; exact hj);have w1:∀ j:Nat,j < b.keys.length→idx (b.wrote++[[]]) (j:Int)=idx b.wrote (j:Int):=fun j hj=>jI (by rw [h.wl]; exact hj);have w2:idx (b.wrote++[[]]) ((b.keys.length:Nat):Int)=[]:=iZ h.wl.symm;have i1:∀ j:Nat,j < b.keys.length→idx (b.incs++[0]) (j:Int)=idx b.incs (j:Int):=fun j hj=>jI (by rw [h.il]; exact hj);have i2:idx (b.incs++[0]) ((b.keys.length:Nat):Int)=0:=iZ h.il.symm;have l1:∀ j:Nat,j < b.keys.length→idx (b.last_++[-1]) (j:Int)=idx b.last_ (j:Int):=fun j hj=>jI (by rw [h.ll]; exact hj);have l2:idx (b.last_++[-1]) ((b.keys.length:Nat):Int) = -1:=iZ h.ll.symm;have ho:=h.io s hn;have hne:∀ e ∈ E,e.1.Key≠s:=fun e he hs=>by
  obtain ⟨j,hj,hk⟩:=h.ks e he;exact hn j hj (hk.trans hs)
 have cut:∀ j:Nat,j < b.keys.length + 1→j < b.keys.length∨j=b.keys.length:=by omega
 refine ⟨by simp [h.tl],by simp [h.wl],by simp [h.il],by simp [h.ll],?_,?_,?_,?_,?_,?_,?_,?_,?_⟩
 ·intro i j hi hj he
  dsimp only at hi hj he
  rw [hl] at hi hj
  have:=h.nd i j;rcases cut i hi with hi' | hi' <;> rcases cut j hj with hj' | hj' <;> grind
 ·intro e he;obtain ⟨j,hj,hk⟩:=h.ks e he;exact ⟨j,by simp; omega,(k1 j hj).trans hk⟩
 ·intro e he j hj hk
  dsimp only at hj hk ⊢
  rw [hl] at hj
  rcases cut j hj with hj' | hj'
  ·rw [k1 j hj'] at hk; rw [t1 j hj']; exact h.ty e he j hj' hk
  ·subst hj'; rw [k2] at hk; exact absurd hk.symm (hne e he)
 ·intro j hj a
  dsimp only at hj ⊢
  rw [hl] at hj
  rcases cut j hj with hj' | hj'
  ·rw [k1 j hj',w1 j hj']; exact h.wr j hj' a
  ·subst hj'
   rw [k2,w2]
   constructor
   ·rintro ⟨m,hm,_⟩; simp at hm
   ·rintro ⟨e,he,hk,_⟩; exact absurd hk (hne e he)
 ·intro j hj
  dsimp only at hj ⊢
  rw [hl] at hj
  rcases cut j hj with hj' | hj'
  ·rw [w1 j hj']; exact h.wn j hj'
  ·subst hj'; rw [w2]; simp
 ·intro j hj
  dsimp only at hj ⊢
  rw [hl] at hj
  rcases cut j hj with hj' | hj'
  ·rw [k1 j hj',i1 j hj']; exact h.ic j hj'
  ·subst hj'; rw [k2,i2,ho]; rfl
 ·intro j hj
  dsimp only at hj ⊢
  rw [hl] at hj
  rcases cut j hj with hj' | hj'
  ·rw [k1 j hj']; exact h.i8 j hj'
  ·subst hj'; rw [k2,ho]; simp
 ·intro x hx
  dsimp only at hx ⊢
  rw [hl] at hx
  exact h.io x (fun j hj=>by rw [← k1 j hj]; exact hx j (by omega))
 ·intro j hj
  dsimp only at hj ⊢
  rw [hl] at hj
  rcases cut j hj with hj' | hj'
  ·rw [k1 j hj',l1 j hj']; exact h.la j hj'
  ·subst hj'; rw [k2,l2,ho]; simp
theorem fZ {E:List (Call×Int)} {c:Call} {w:Int} {e:Call×Int}:e ∈ E++[(c,w)]↔e ∈ E∨e=(c,w):=by simp
theorem BookInv0.same {E:List (Call×Int)} {b:aD} {c:Call} {w:Int} {k:Nat} (h:BookInv0 E b) (hk:k < b.keys.length) (hs:idx b.keys (k:Int)=c.Key) (ht:idx b.types (k:Int)=typ c.Kind)
  (h2:c.Kind≠2) (h3:c.Kind≠3) (hw:nZ (jW E c.Key) c w c.Key=jW E c.Key):BookInv0 (E++[(c,w)]) b:=by
 have hws:∀ s,jW (E++[(c,w)]) s=jW E s:=fun s=>by
  rw [xO]
  by_cases e:c.Kind=4∧c.Key=s
  ·rw [← e.2]; exact hw
  ·exact qo e
 refine ⟨h.tl,h.wl,h.il,h.ll,h.nd,?_,?_,?_,?_,?_,?_,?_,?_⟩
 ·intro e he;rcases fZ.1 he with he | rfl
  ·exact h.ks e he
  ·exact ⟨k,hk,hs⟩
 ·intro e he j hj hkj;rcases fZ.1 he with he | rfl
  ·exact h.ty e he j hj hkj
  ·have:=h.nd j k hj hk (hkj.trans hs.symm);subst this;exact ht
 ·intro j hj a
  rw [h.wr j hj a]
  constructor
  ·rintro ⟨e,he,r⟩; exact ⟨e,fZ.2 (.inl he),r⟩
  ·rintro ⟨e,he,r⟩;rcases fZ.1 he with he | rfl
   ·exact ⟨e,he,r⟩
   ·rcases r.2.1 with r | r <;> contradiction
 ·intro j hj;have:=h.wn j hj
  simp; omega
 ·intro j hj; rw [hws]; exact h.ic j hj
 ·intro j hj; rw [hws]; exact h.i8 j hj
 ·intro s hs'; rw [hws]; exact h.io s hs'
 ·intro j hj; rw [hws]; exact h.la j hj
theorem BookInv0.write {E:List (Call×Int)} {b:aD} {c:Call} {w:Int} {k:Nat} (h:BookInv0 E b) (hk:k < b.keys.length) (hs:idx b.keys (k:Int)=c.Key) (ht:idx b.types (k:Int)=typ c.Kind)
  (a1:c.Kind=2∨c.Kind=3):BookInv0 (E++[(c,w)]) ⟨b.keys,b.types,b.wrote.set k (idx b.wrote (k:Int)++[c.Arg]),b.incs,b.last_⟩:=by
 have hws:∀ s,jW (E++[(c,w)]) s=jW E s:=fun s=>by
  rw [xO]
  exact qo (fun e=>by omega)
 have w1:∀ j:Nat,idx (b.wrote.set k (idx b.wrote (k:Int)++[c.Arg])) (j:Int)=if j=k then idx b.wrote (k:Int)++[c.Arg] else idx b.wrote (j:Int):=fun j=>qA (by rw [h.wl]; exact hk);refine ⟨h.tl,by simp [h.wl],h.il,h.ll,h.nd,?_,?_,?_,?_,?_,?_,?_,?_⟩
 ·intro e he;rcases fZ.1 he with he | rfl
  ·exact h.ks e he
  ·exact ⟨k,hk,hs⟩
 ·intro e he j hj hkj;rcases fZ.1 he with he | rfl
  ·exact h.ty e he j hj hkj
  ·have:=h.nd j k hj hk (hkj.trans hs.symm);subst this;exact ht
 ·intro j hj a
  dsimp only at hj ⊢
  rw [w1 j]
  have hold:=h.wr j hj a
  by_cases e:j=k
  ·subst e
   rw [if_pos rfl]
   constructor
   ·rintro ⟨m,hm,he⟩;rcases Nat.lt_or_ge m (idx b.wrote (j:Int)).length with h1 | h1
    ·rw [jI h1] at he
     obtain ⟨e,he',r⟩:=hold.1 ⟨m,h1,he⟩;exact ⟨e,fZ.2 (.inl he'),r⟩
    ·simp at hm
     rw [iZ (by omega)] at he
     exact ⟨(c,w),fZ.2 (.inr rfl),hs.symm,a1,he⟩
   ·rintro ⟨e,he,r⟩;rcases fZ.1 he with he | rfl
    ·obtain ⟨m,hm,hh⟩:=hold.2 ⟨e,he,r⟩;exact ⟨m,by simp; omega,(jI hm).trans hh⟩
    ·exact ⟨_,by simp,(iZ rfl).trans r.2.2⟩
  ·rw [if_neg e,hold]
   constructor
   ·rintro ⟨e,he,r⟩; exact ⟨e,fZ.2 (.inl he),r⟩
   ·rintro ⟨e',he,r⟩;rcases fZ.1 he with he | rfl
    ·exact ⟨e',he,r⟩
    ·exact absurd (h.nd j k hj hk (r.1.symm.trans hs.symm)) e
 ·intro j hj
  dsimp only at hj ⊢
  rw [w1 j]
  have:=h.wn j hj
  split
  ·rename_i e; subst e; simp; omega
  ·simp; omega
 ·intro j hj; rw [hws]; exact h.ic j hj
 ·intro j hj; rw [hws]; exact h.i8 j hj
 ·intro s hs'; rw [hws]; exact h.io s hs'
 ·intro j hj; rw [hws]; exact h.la j hj
theorem BookInv0.inc {E:List (Call×Int)} {b:aD} {c:Call} {w:Int} {k:Nat} (h:BookInv0 E b) (hk:k < b.keys.length) (hs:idx b.keys (k:Int)=c.Key) (ht:idx b.types (k:Int)=typ c.Kind)
  (h4:c.Kind=4) (hw:nZ (jW E c.Key) c w c.Key=jW E c.Key++[w]) (h8:(jW E c.Key).length + 1≤8) :
  BookInv0 (E++[(c,w)]) ⟨b.keys,b.types,b.wrote,b.incs.set k (idx b.incs (k:Int) + 1),b.last_.set k w⟩:=by
 have hws:∀ s,jW (E++[(c,w)]) s=if c.Key=s then jW E s++[w] else jW E s:=fun s=>by
  rw [xO]
  by_cases e:c.Key=s
  ·rw [if_pos e,← e]; exact hw
  ·rw [if_neg e]; exact qo (fun hh=>e hh.2)
 have i1:∀ j:Nat,idx (b.incs.set k (idx b.incs (k:Int) + 1)) (j:Int)=if j=k then idx b.incs (k:Int) + 1 else idx b.incs (j:Int):=fun j=>qA (by rw [h.il]; exact hk);have l1:∀ j:Nat,idx (b.last_.set k w) (j:Int)=if j=k then w else idx b.last_ (j:Int):=fun j=>qA (by rw [h.ll]; exact hk);have hne:∀ j:Nat,j < b.keys.length→(c.Key=idx b.keys (j:Int)↔j=k):=fun j hj=>⟨fun e=>h.nd j k hj hk (e.symm.trans hs.symm),fun e=>by rw [e,hs]⟩
 refine ⟨h.tl,h.wl,by simp [h.il],by simp [h.ll],h.nd,?_,?_,?_,?_,?_,?_,?_,?_⟩
 ·intro e he;rcases fZ.1 he with he | rfl
  ·exact h.ks e he
  ·exact ⟨k,hk,hs⟩
 ·intro e he j hj hkj;rcases fZ.1 he with he | rfl
  ·exact h.ty e he j hj hkj
  ·have:=h.nd j k hj hk (hkj.trans hs.symm);subst this;exact ht
 ·intro j hj a
  dsimp only at hj ⊢
  rw [h.wr j hj a]
  constructor
  ·rintro ⟨e,he,r⟩; exact ⟨e,fZ.2 (.inl he),r⟩
  ·rintro ⟨e,he,r⟩;rcases fZ.1 he with he | rfl
   ·exact ⟨e,he,r⟩
   ·have:=r.2.1; dsimp only at this; omega
 ·intro j hj;have:=h.wn j hj
  simp; omega
 ·intro j hj
  dsimp only at hj ⊢
  have:=h.ic j hj
  rw [hws,i1 j]
  by_cases e:j=k
  ·rw [if_pos e,if_pos ((hne j hj).2 e)]; subst e; simp; omega
  ·rw [if_neg e,if_neg (fun hh=>e ((hne j hj).1 hh))]; exact this
 ·intro j hj
  dsimp only at hj ⊢
  rw [hws]
  by_cases e:j=k
  ·rw [if_pos ((hne j hj).2 e)]; subst e; rw [hs]; simp; omega
  ·rw [if_neg (fun hh=>e ((hne j hj).1 hh))]; exact h.i8 j hj
 ·intro s hs'
  dsimp only at hs'
  rw [hws,if_neg (fun e=>hs' k hk (hs.trans e))]
  exact h.io s hs'
 ·intro j hj
  dsimp only at hj ⊢
  rw [hws,l1 j]
  by_cases e:j=k
  ·rw [if_pos e,if_pos ((hne j hj).2 e)]
   refine ⟨fun h0=>by simp at h0,fun _ => ?_⟩
   rw [iZ (by simp)]
  ·rw [if_neg e,if_neg (fun hh=>e ((hne j hj).1 hh))]; exact h.la j hj
theorem DY {E:List (Call×Int)} {b:aD} {c:Call} {w:Int} {k:Nat} (h:BookInv0 E b) (hk:k < b.keys.length) (hs:idx b.keys (k:Int)=c.Key) (ht:idx b.types (k:Int)=typ c.Kind)
  (h1:1≤c.Kind) (h8:c.Kind≤8) (hw:0≤w) (hE:E.length≤4096) :
  Tri (dD c w b.keys b.types b.wrote b.incs b.last_ (k:Int)) (fun r=>(r.1=0↔FM E c w)∧(r.1=0→BookInv0 (E++[(c,w)]) r.2∧r.2.keys=b.keys∧r.2.types=b.types)):=by
 have hin:=h.ic k hk;have a1:=h.i8 k hk;have hla:=h.la k hk;have hwr:=h.wr k hk c.Arg;have hwn:=h.wn k hk
 rw [hs] at hin a1 hla hwr
 refine dO (AP (who:=w) hk h.tl h.wl h.il h.ll (by omega) (by omega) h1 h8) (fun r hr => ?_);have stay:∀ {l:List Int},nZ (jW E c.Key) c w c.Key=l→l=if c.Kind=4∧((jW E c.Key).length=0∨idx (jW E c.Key) (((jW E c.Key).length - 1:Nat):Int)≠w) then jW E c.Key++[w] else jW E c.Key:=by
  rintro l rfl;unfold nZ
  simp
 have st:=stay rfl;rcases hr with ⟨a,rfl⟩ | ⟨_,b1,b2,rfl⟩ | ⟨_,b1,b2,rfl⟩ | ⟨_,b1,b2,b3,b4⟩ | ⟨_,b1,b2,b3,rfl⟩ | ⟨_,b1,b2,rfl⟩ | ⟨_,b1,b2,b3,rfl⟩
 ·exact absurd ht a
 ·refine ⟨⟨fun h=>by simp at h,fun hh => ?_⟩,fun h=>by simp at h⟩
  obtain ⟨e,he,r1,r2,r3⟩:=hwr.1 b2;exact absurd r3 (hh.1 b1 e he r1 r2)
 ·refine ⟨⟨fun _=>⟨fun _ e he r1 r2 r3=>b2 (hwr.2 ⟨e,he,r1,r2,r3⟩),fun h4=>by omega⟩,fun _=>rfl⟩,fun _=>⟨h.write hk hs ht b1,rfl,rfl⟩⟩
 ·have hne:(jW E c.Key).length=0∨idx (jW E c.Key) (((jW E c.Key).length - 1:Nat):Int)≠w:=by grind
  rw [if_pos ⟨b1,hne⟩] at st
  refine ⟨⟨fun h0=>by omega,fun hh => ?_⟩,fun h0=>by omega⟩
  have:=hh.2 b1
  rw [st] at this
  simp at this
  omega
 ·have hne:(jW E c.Key).length=0∨idx (jW E c.Key) (((jW E c.Key).length - 1:Nat):Int)≠w:=by grind
  rw [if_pos ⟨b1,hne⟩] at st
  refine ⟨⟨fun _=>⟨fun h=>by omega,fun _=>by rw [st]; simp; omega⟩,fun _=>rfl⟩,fun _=>⟨h.inc hk hs ht b1 st (by omega),rfl,rfl⟩⟩
 ·have hne:¬ ((jW E c.Key).length=0∨idx (jW E c.Key) (((jW E c.Key).length - 1:Nat):Int)≠w):=by grind
  rw [if_neg (fun hh=>hne hh.2)] at st
  refine ⟨⟨fun _=>⟨fun h=>by omega,fun _=>by rw [st]; exact a1⟩,fun _=>rfl⟩,fun _=>⟨h.same hk hs ht (by omega) (by omega) st,rfl,rfl⟩⟩
 ·rw [if_neg (fun hh=>b3 hh.1)] at st
  refine ⟨⟨fun _=>⟨fun h=>by omega,fun h=>by omega⟩,fun _=>rfl⟩,fun _=>⟨h.same hk hs ht b1 b2 st,rfl,rfl⟩⟩
structure og (E:List (Call×Int)) (b:aD):Prop extends BookInv0 E b where
 len:b.keys.length≤32
 kex:∀ j:Nat,j < b.keys.length→∃ e ∈ E,e.1.Key=idx b.keys (j:Int)
theorem og.start:og [] ⟨[],[],[],[],[]⟩:=⟨BookInv0.start,by simp,fun j hj=>by simp at hj⟩
theorem EF {E:List (Call×Int)} {b:aD} {c:Call} {w:Int} (h:og E b) (hroom:b.keys.length=32→∃ j:Nat,j < b.keys.length∧idx b.keys (j:Int)=c.Key)
  (h1:1≤c.Kind) (h8:c.Kind≤8) (hw:0≤w) (hE:E.length≤4096) :
  Tri (ag b c w) (fun r=>(r.1=0↔DX E c w)∧(r.1=0→og (E++[(c,w)]) r.2)):=by
 have hl:=h.len;have t1:=h.tl;have t2:=h.wl;have t3:=h.il;have t4:=h.ll;obtain ⟨r0,a5,hf⟩:=xM (l:=b.keys) (s:=c.Key) (by omega);unfold ag
 rw [a5]
 refine bE ?_;rcases hf with ⟨rfl,hno⟩ | ⟨k,rfl,a1,a2,_⟩
 ·refine ay (fun _ => ?_) (fun hh=>by omega);refine ay (fun a6 => ?_) (fun a6 => ?_)
  ·obtain ⟨j,hj,he⟩:=hroom (by omega);exact absurd he (hno j hj)
  ·have hn:=h.toBookInv0.new (s:=c.Key) (t:=typ c.Kind) hno;have hat:=DY (w:=w) hn (k:=b.keys.length) (by simp) (iZ rfl) (iZ t1.symm) h1 h8 hw hE;have hne:∀ e ∈ E,e.1.Key≠c.Key:=fun e he hs=>by
    obtain ⟨j,hj,hk⟩:=h.ks e he;exact hno j hj (hk.trans hs)
   unfold fK fJ
   simp only [yJ h1 h8]
   refine ai (by omega) (bE (ai (by omega) (ai (by omega) (ai (by omega) (ai (by omega) ?_)))));refine dO hat (fun r hr => ?_);refine ⟨hr.1.trans ⟨fun hh=>⟨fun e he hs=>absurd hs (hne e he),hh⟩,fun hh=>hh.2⟩,fun h0 => ?_⟩;obtain ⟨q1,q2,q3⟩:=hr.2 h0;refine ⟨q1,by rw [q2]; simp; omega,fun j hj => ?_⟩
   rw [q2] at hj ⊢
   have hj:j < b.keys.length + 1:=by simpa using hj
   rcases (by omega:j < b.keys.length∨j=b.keys.length) with hj' | hj'
   ·obtain ⟨e,he,hk⟩:=h.kex j hj';exact ⟨e,fZ.2 (.inl he),by rw [hk]; exact (jI hj').symm⟩
   ·subst hj';exact ⟨(c,w),fZ.2 (.inr rfl),(iZ rfl).symm⟩
 ·refine ay (fun hh=>by omega) (fun _ => ?_);obtain ⟨e0,a3,a4⟩:=h.kex k a1;have hty:=h.ty e0 a3 k a1 a4.symm
  by_cases ht:idx b.types (k:Int)=typ c.Kind
  ·have hat:=DY (w:=w) h.toBookInv0 a1 a2 ht h1 h8 hw hE;refine dO hat (fun r hr => ?_);refine ⟨hr.1.trans ⟨fun hh=>⟨fun e he hs => ?_,hh⟩,fun hh=>hh.2⟩,fun h0 => ?_⟩
   ·exact (h.ty e he k a1 (a2.trans hs.symm)).symm.trans ht
   ·obtain ⟨q1,q2,q3⟩:=hr.2 h0;refine ⟨q1,by rw [q2]; exact hl,fun j hj => ?_⟩
    rw [q2] at hj ⊢
    obtain ⟨e,he,hk⟩:=h.kex j hj;exact ⟨e,fZ.2 (.inl he),hk⟩
  ·have hin:=h.ic k a1;have a7:=h.i8 k a1;have hwn:=h.wn k a1;refine dO (AP (who:=w) a1 t1 t2 t3 t4 (by omega) (by omega) h1 h8) (fun r hr => ?_);have hno:¬ DX E c w:=fun hh=>ht (hty.trans (hh.1 e0 a3 (a4.trans a2)));rcases hr with ⟨a,rfl⟩ | ⟨a,_⟩ | ⟨a,_⟩ | ⟨a,_⟩ | ⟨a,_⟩ | ⟨a,_⟩ | ⟨a,_⟩
   ·exact ⟨⟨fun h=>by simp at h,fun hh=>absurd hh hno⟩,fun h=>by simp at h⟩
   all_goals exact absurd a ht
def zi (h:History) (i:Nat):List (Call×Int):=(cB h (idx h.Txns (i:Int))).map (fun c=>(c,(i:Int)))
def pU (h:History) (k:Nat):List (Call×Int):=(List.range k).flatMap (zi h)
theorem qp {h:History} {k:Nat}:pU h (k + 1)=pU h k++zi h k:=by
 unfold pU; rw [List.range_succ,List.flatMap_append]; simp
def oh (E L:List (Call×Int)):Prop:=∀ j:Nat,j < L.length→DX (E++L.take j) (idx L (j:Int)).1 (idx L (j:Int)).2
theorem oh.append {E L M:List (Call×Int)}:oh E (L++M)↔oh E L∧oh (E++L) M:=by
 constructor
 ·intro h;refine ⟨fun j hj => ?_,fun j hj => ?_⟩
  ·have:=h j (by simp; omega)
   rwa [jI hj,List.take_append_of_le_length (by omega)] at this
  ·have:=h (L.length + j) (by simp; omega)
   rw [List.take_append,List.take_of_length_le (by omega),show L.length + j - L.length=j by omega,← List.append_assoc] at this
   rwa [show idx (L++M) ((L.length + j:Nat):Int)=idx M (j:Int) from by
    rw [dV rfl (by simp; omega),dV rfl hj,List.getElem_append_right (by omega)]; congr 1; omega] at this
 ·rintro ⟨h1,h2⟩ j hj;rcases Nat.lt_or_ge j L.length with h3 | h3
  ·rw [jI h3,List.take_append_of_le_length (by omega)]; exact h1 j h3
  ·obtain ⟨i,rfl⟩:∃ i,j=L.length + i:=⟨j - L.length,by omega⟩
   have hi:i < M.length:=by simp at hj; omega
   have:=h2 i hi
   rw [List.take_append,List.take_of_length_le (by omega),show L.length + i - L.length=i by omega,← List.append_assoc]
   rwa [show idx (L++M) ((L.length + i:Nat):Int)=idx M (i:Int) from by
    rw [dV rfl (by simp; omega),dV rfl hi,List.getElem_append_right (by omega)]; congr 1; omega]
theorem room {K l:List ByteArray} {s:ByteArray} (hK:K.length≤32) (hl:l.length=32) (nd:∀ i j:Nat,i < l.length→j < l.length→idx l (i:Int)=idx l (j:Int)→i=j)
  (hs:s ∈ K) (hsub:∀ x ∈ l,x ∈ K):∃ j:Nat,j < l.length∧idx l (j:Int)=s:=by
 have hnd:l.Nodup:=by
  rw [List.nodup_iff_pairwise_ne,List.pairwise_iff_getElem]
  intro i j hi hj hij he;have:=nd i j hi hj (by rw [dV rfl hi,dV rfl hj]; exact he)
  omega
 by_cases h:s ∈ l
 ·obtain ⟨j,hj,he⟩:=List.getElem_of_mem h;exact ⟨j,hj,(dV rfl hj).trans he⟩
 ·have h1:(s::l).Nodup:=List.nodup_cons.2 ⟨h,hnd⟩;have h2:=h1.length_le_of_subset (l₂:=K) (fun x hx=>by
   rcases List.mem_cons.1 hx with rfl | hx
   ·exact hs
   ·exact hsub x hx)
  simp at h2
  omega
def InK (K:List ByteArray) (E:List (Call×Int)):Prop:=∀ e ∈ E,e.1.Key ∈ K
theorem og.sub {K:List ByteArray} {E:List (Call×Int)} {b:aD} (h:og E b) (hE:InK K E):∀ x ∈ b.keys,x ∈ K:=by
 intro x hx;obtain ⟨j,hj,rfl⟩:=List.getElem_of_mem hx;obtain ⟨e,he,hk⟩:=h.kex j hj;have:=hE e he
 rw [hk,dV rfl hj] at this
 exact this
theorem CZ {K:List ByteArray} {E:List (Call×Int)} {b:aD} {i:Nat} {l:List Call} (h:og E b) (hK:K.length≤32) (hEK:InK K E) (hlK:∀ c ∈ l,c.Key ∈ K) (hl:l.length≤16) (hi:i < 64) (hn:E.length≤1024)
  (hc:qN l (fun c=>1≤c.Kind∧c.Kind≤8)) :
  Tri (iter (ed (i:Int) l) (wO b 0)) (fun x=>(oh E (l.map (fun c=>(c,(i:Int))))→∃ b',x = .inr (.inl (wO b' ((i + 1:Nat):Int)))∧og (E++l.map (fun c=>(c,(i:Int)))) b') ∧
   (¬ oh E (l.map (fun c=>(c,(i:Int))))→x = .inr (.inr 1))):=by
 generalize hm:l.map (fun c=>(c,(i:Int)))=m;have hml:m.length=l.length:=by rw [← hm]; simp
 have hmi:∀ k:Nat,k < l.length→idx m (k:Int)=(idx l (k:Int),(i:Int)):=fun k hk=>by rw [← hm,vo hk]
 refine dB (k0:=0) l.length (fun k s=>∃ b',s=wO b' (k:Int)∧og (E++m.take k) b'∧∀ j:Nat,j < k→DX (E++m.take j) (idx m (j:Int)).1 (idx m (j:Int)).2) (Nat.zero_le _) ⟨b,rfl,by simpa using h,fun j hj=>absurd hj (Nat.not_lt_zero _)⟩ ?_
 rintro k s hk ⟨b',rfl,hb,hJ⟩;unfold ed wO
 dsimp only
 refine ay (fun a2 => ?_) (fun a2 => ?_)
 ·have a1:k < l.length:=by omega
  have hin:InK K (E++m.take k):=fun e he=>by
   rcases List.mem_append.1 he with he | he
   ·exact hEK e he
   ·have:=List.mem_of_mem_take he
    rw [← hm] at this
    obtain ⟨c,hc,rfl⟩:=List.mem_map.1 this;exact hlK c hc
  have hcK:(idx l (k:Int)).Key ∈ K:=hlK _ (by rw [dV rfl a1]; exact List.getElem_mem a1);have hw:w64 ((k:Int) + 1)=((k + 1:Nat):Int):=aX (by omega);obtain ⟨r,hr,q1,q2⟩:=EF (c:=idx l (k:Int)) (w:=(i:Int)) hb (fun a3=>room hK a3 hb.nd hcK (hb.sub hin)) (hc k a1).1 (hc k a1).2 (by omega) (by simp; omega);refine ai (by omega) (dC hr ?_);refine ay (fun h0 => ?_) (fun h0 => ?_)
  ·refine aI (aI (aI (ah ⟨fun hall => ?_,fun _=>rfl⟩)));have:=hall k (by omega)
   rw [hmi k a1] at this
   exact absurd (q1.2 this) h0
  ·refine ah ⟨a1,r.2,?_,?_,?_⟩
   ·rw [hw]
   ·rw [lI (by omega),hmi k a1,← List.append_assoc]
    exact q2 (by omega)
   ·intro j hj;rcases Nat.lt_or_ge j k with h1 | h1
    ·exact hJ j h1
    ·rw [show j=k by omega,hmi k a1]; exact q1.1 (by omega)
 ·have hw:w64 ((i:Int) + 1)=((i + 1:Nat):Int):=aX (by omega)
  rw [hw]
  have hfull:m.take k=m:=List.take_of_length_le (by omega)
  rw [hfull] at hb
  refine aI (aI (ah ⟨fun _=>⟨b',rfl,hb⟩,fun hno=>absurd (fun j hj=>hJ j (by omega)) hno⟩))
structure gY (h:History):Prop where
 names:nX h.Keys
 len:h.Txns.length≤32
 txn:∀ i:Nat,i < h.Txns.length→wP h i
 ents:oh [] (pU h h.Txns.length)
theorem keys_in {h:History} {i:Nat} (hi:tF h (idx h.Txns (i:Int))):∀ c ∈ cB h (idx h.Txns (i:Int)),c.Key ∈ h.Keys:=by
 intro c hc;obtain ⟨o,ho,rfl⟩:=List.mem_map.1 hc;have:=(uN.1 hi) o ho
 show idx h.Keys o.Key ∈ h.Keys
 rw [dV (n:=o.Key.toNat) (by omega) (by omega)]
 exact List.getElem_mem _
theorem EG {h:History} {i:Nat} (hi:wP h i):(zi h i).length≤16:=by
 have:=hi.2.2.2.2.1
 simpa [zi,vJ,cB] using this
theorem yB {h:History} (hs:nY h):Tri (au h) (fun v=>(v=0↔gY h)∧(v=0∨v=1)):=by
 obtain ⟨a6,a5,a2⟩:=hs;obtain ⟨y,hy,hn⟩:=zh (l:=h.Keys) (by omega);unfold au fo
 simp only [cond_true,cond_false]
 repeat' (first | contradiction | with_reducible refine ay (fun hq => ?_) (fun hq => ?_) | with_reducible refine ai (by first | omega | grind [bD]) ?_ | with_reducible refine aI ?_ | with_reducible refine bE ?_ | with_reducible refine bR ?_ | with_reducible refine bP ?_ | with_reducible refine bU ?_ | with_reducible refine ah ?_ | refine dC hy ?_)
 ·exact ⟨⟨fun h=>absurd h (by decide),fun hS=>absurd (hn.2 hS.names) ‹¬y=true›⟩,.inr rfl⟩
 ·exact ⟨⟨fun h=>absurd h (by decide),fun hS=>absurd hS.len (by omega)⟩,.inr rfl⟩
 ·have hN:nX h.Keys:=hn.1 (Decidable.of_not_not ‹¬¬y=true›);have a4:h.Txns.length≤32:=by omega
  refine dB (k0:=0) h.Txns.length (fun k s=>∃ b,s=wO b (k:Int)∧og (pU h k) b∧InK h.Keys (pU h k)∧(pU h k).length≤16 * k∧oh [] (pU h k)∧∀ j:Nat,j < k→wP h j) (Nat.zero_le _)
   ⟨⟨[],[],[],[],[]⟩,rfl,og.start,fun e he=>by simp [pU] at he,by simp [pU],fun j hj=>by simp [pU] at hj,fun j hj=>absurd hj (Nat.not_lt_zero _)⟩ ?_
  rintro k s hk ⟨b,rfl,hb,hin,hlen,hents,hJ⟩;unfold gL gJ wO
  simp only [cond_true,cond_false]
  have hbad:(k < h.Txns.length → ¬ wP h k)→k < h.Txns.length → ¬ gY h:=fun h1 h2 hS=>h1 h2 (hS.txn k h2);refine ay (fun a3 => ?_) (fun a3 => ?_)
  ·have a1:k < h.Txns.length:=by omega
   obtain ⟨p',hp',hp1'⟩:=uf (l:=h.Txns) a1 (by omega);have hco:vX (vJ h (idx h.Txns (k:Int)))→(idx h.Txns (k:Int)).Ops.length≤16:=fun he=>by
    have:=he.2.2.1
    simpa [vJ,cB] using this
   repeat' (first | contradiction | with_reducible refine ay (fun hq => ?_) (fun hq => ?_) | with_reducible refine ai (by first | omega | grind [bD]) ?_ | with_reducible refine aI ?_ | with_reducible refine bE ?_ | with_reducible refine bR ?_ | with_reducible refine bP ?_ | with_reducible refine bU ?_ | with_reducible refine ah ?_ | refine dC hp' ?_)
   ·exact ⟨⟨fun h=>absurd h (by decide),fun hS=>absurd (hp1'.2 (hS.txn k a1).1) ‹¬p'=true›⟩,.inr rfl⟩
   ·exact ⟨⟨fun h=>absurd h (by decide),fun hS=>absurd (hco (hS.txn k a1).2.2) (by omega)⟩,.inr rfl⟩
   ·refine AQ (b:=b) a1 (a2 k a1) (by omega) (fun hno => ?_) (fun hKo hEv => ?_)
    ·exact ⟨⟨fun h=>absurd h (by decide),fun hS=>absurd ⟨(hS.txn k a1).2.1,(hS.txn k a1).2.2⟩ hno⟩,.inr rfl⟩
    ·have hok:wP h k:=⟨hp1'.1 (Decidable.of_not_not ‹¬¬p'=true›),hKo,hEv⟩;have hc:qN (cB h (idx h.Txns (k:Int))) (fun c=>1≤c.Kind∧c.Kind≤8):=fun j hj=>⟨(hEv.2.2.2 j hj).1,(hEv.2.2.2 j hj).2.1⟩;refine dO (CZ (i:=k) hb hN.1 hin (keys_in hKo) hEv.2.2.1 (by omega) (by omega) hc) (fun x hx => ?_)
     by_cases hall:oh (pU h k) (zi h k)
     ·obtain ⟨b',rfl,hb'⟩:=hx.1 hall;refine ⟨a1,b',rfl,by rw [qp]; exact hb',?_,?_,?_,?_⟩
      ·rw [qp]
       intro e he;rcases List.mem_append.1 he with he | he
       ·exact hin e he
       ·obtain ⟨c,hc,rfl⟩:=List.mem_map.1 he;exact keys_in hKo c hc
      ·have:=EG hok
       rw [qp,List.length_append]; omega
      ·rw [qp]
       exact oh.append.2 ⟨hents,hall⟩
      ·intro j hj;rcases Nat.lt_or_ge j k with h1 | h1
       ·exact hJ j h1
       ·rw [show j=k by omega]; exact hok
     ·rw [hx.2 hall]
      refine ⟨⟨fun h=>absurd h (by decide),fun hS=>absurd ?_ hall⟩,.inr rfl⟩;have hsp:∀ n:Nat,k + 1≤n→oh [] (pU h n)→oh (pU h k) (zi h k):=by
       intro n
       induction n with
       | zero=>intro h; omega
       | succ n ih =>
        intro hn hE
        rw [qp,oh.append] at hE
        rcases Nat.lt_or_ge k n with h1 | h1
        ·exact ih (by omega) hE.1
        ·rw [show n=k by omega] at hE
         exact hE.2
      exact hsp _ a1 hS.ents
  ·have a1:k=h.Txns.length:=by omega
   repeat' (first | contradiction | with_reducible refine ay (fun hq => ?_) (fun hq => ?_) | with_reducible refine ai (by first | omega | grind [bD]) ?_ | with_reducible refine aI ?_ | with_reducible refine bE ?_ | with_reducible refine bR ?_ | with_reducible refine bP ?_ | with_reducible refine bU ?_ | with_reducible refine ah ?_)
   rw [a1] at hents hJ
   exact ⟨⟨fun _=>⟨hN,a4,hJ,hents⟩,fun _=>rfl⟩,.inl rfl⟩
theorem vZ {h:History} (hs:nY h):∃ v,aN h=some v∧au h=some v∧(v=0∨v=1)∧(v=0↔gY h):=by
 obtain ⟨v,hv,v',hv',rfl,a1⟩:=xN hs;obtain ⟨w,hw,h1,h2⟩:=yB hs;have:v=w:=Option.some.inj (hv'.symm.trans hw);subst this;exact ⟨v,hv,hv',a1,h1⟩
end Go.Proofs.YtmfgddafcgflaaaGreatT
namespace Go.Proofs.YtmfgddafcgflaaaGreatT
open Go Go.Proofs Go.Proofs.YtmfgddafcgflaaaGreatE
set_option linter.unusedVariables false
set_option linter.unusedSimpArgs false
def qM (ops:List Op) (key:Int) (p:Nat):List Int:=((ops.take p).filter (fun o=>decide (o.Key=key∧o.Kind≤4))).map (·.Arg)
theorem EH {ops:List Op} {key:Int}:qM ops key 0=[]:=rfl
theorem vk {ops:List Op} {key:Int} {p:Nat} (h:p < ops.length):qM ops key (p + 1)=if (idx ops (p:Int)).Key=key∧(idx ops (p:Int)).Kind≤4 then qM ops key p++[(idx ops (p:Int)).Arg] else qM ops key p:=by
 unfold qM
 rw [lI h,List.filter_append,List.map_append]
 by_cases e:(idx ops (p:Int)).Key=key∧(idx ops (p:Int)).Kind≤4
 ·simp [e]
 ·rw [if_neg e]
  simp only [List.filter_cons,List.filter_nil,decide_eq_true_eq,if_neg e]
  simp
theorem su {ops:List Op} {key:Int} {p:Nat}:(qM ops key p).length≤ops.length:=by
 unfold qM
 rw [List.length_map]
 exact Nat.le_trans (List.length_filter_le _ _) (by simp; omega)
def wQ (ops:List Op) (t:Int) (p:Nat):List Ask :=
 let o:=idx ops (p:Int)
 let mine:=qM ops o.Key p
 if o.Kind≤4 then [] else if mine=[] then [⟨t,p,o.Key,o.Vals⟩] else if (before (o.Kind - 4) o.Vals mine).2=true∧o.Kind≠5 then [⟨t,p,o.Key,(before (o.Kind - 4) o.Vals mine).1⟩] else []
def xP (ops:List Op) (t:Int) (p:Nat):List eZ :=
 let o:=idx ops (p:Int)
 let mine:=qM ops o.Key p
 if o.Kind≤4 then [] else if mine=[] then [] else if (before (o.Kind - 4) o.Vals mine).2=true then [] else [⟨t,p⟩]
def pJ (ops:List Op) (t:Int) (k:Nat):List Ask:=(List.range k).flatMap (wQ ops t)
def pY (ops:List Op) (t:Int) (k:Nat):List eZ:=(List.range k).flatMap (xP ops t)
theorem uH {ops:List Op} {t:Int} {k:Nat}:pJ ops t (k + 1)=pJ ops t k++wQ ops t k:=by
 unfold pJ; rw [List.range_succ,List.flatMap_append]; simp
theorem tH {ops:List Op} {t:Int} {k:Nat}:pY ops t (k + 1)=pY ops t k++xP ops t k:=by
 unfold pY; rw [List.range_succ,List.flatMap_append]; simp
theorem wh {ops:List Op} {t:Int} {k:Nat}:(pJ ops t k).length≤k:=by
 induction k with
 | zero=>simp [pJ]
 | succ k ih =>
  rw [uH,List.length_append]
  have:(wQ ops t k).length≤1:=by
   unfold wQ
   dsimp only
   split
   ·simp
   ·split
    ·simp
    ·split <;> simp
  omega
theorem uI {ops:List Op} {t:Int} {k:Nat}:(pY ops t k).length≤k:=by
 induction k with
 | zero=>simp [pY]
 | succ k ih =>
  rw [tH,List.length_append]
  have:(xP ops t k).length≤1:=by
   unfold xP
   dsimp only
   split
   ·simp
   ·split
    ·simp
    ·split <;> simp
  omega
def pM (h:History) (t:Int):List Ask:=if (idx h.Txns t).Status=1 then pJ (idx h.Txns t).Ops t (idx h.Txns t).Ops.length else []
def qW (h:History) (t:Int):List eZ:=if (idx h.Txns t).Status=1 then pY (idx h.Txns t).Ops t (idx h.Txns t).Ops.length else []
def DZ (ops:List Op):Prop:=ops.length≤16∧qN ops (fun o=>1≤o.Kind∧o.Kind≤8∧o.Vals.length≤64)
theorem wP.ops {h:History} {i:Nat} (hi:wP h i):DZ (idx h.Txns (i:Int)).Ops:=by
 obtain ⟨_,_,_,_,h1,h2⟩:=hi;refine ⟨by simpa [vJ,cB] using h1,fun j hj => ?_⟩
 have:=h2 j (by simpa [vJ,cB] using hj)
 dsimp only [vJ,cB] at this
 rw [vo hj] at this
 unfold pI uE at this
 dsimp only at this
 grind
theorem EI {h:History} {t:Nat} {f:dK} (ht:t < h.Txns.length) (ho:DZ (idx h.Txns (t:Int)).Ops) (ha:f.asks.length≤1000000) (hb:f.bad.length≤1000000) :
  Tri (aS f h (t:Int)) (fun r=>r=⟨f.asks++pM h (t:Int),f.bad++qW h (t:Int)⟩):=by
 unfold aS pM qW;refine ai (by omega) ?_;refine ay (fun h1 => ?_) (fun h1 => ?_)
 ·rw [if_neg h1,if_neg h1]
  exact ah (by simp)
 ·have h1:(idx h.Txns (t:Int)).Status=1:=Decidable.of_not_not h1
  rw [if_pos h1,if_pos h1]
  generalize hx:(idx h.Txns (t:Int)).Ops=ops at ho ⊢;obtain ⟨a4,hall⟩:=ho;refine dB (k0:=0) ops.length (fun k s=>s.1=f.asks++pJ ops (t:Int) k∧s.2.1=f.bad++pY ops (t:Int) k∧(∀ key,mat s.2.2.1 key=qM ops key k)∧s.2.2.2=(k:Int)) (Nat.zero_le _)
   ⟨by simp [pJ],by simp [pY],fun key=>rfl,rfl⟩ ?_
  rintro k ⟨l1,l2,m,x⟩ hk ⟨e1,e2,hm,e4⟩
  dsimp only at e1 e2 hm e4
  subst e1 e2 e4;unfold lL jD jC fD
  simp only [cond_true,cond_false,hx,hm]
  have hw:w64 ((k:Int) + 1)=((k + 1:Nat):Int):=aX (by omega);have l1:=wh (ops:=ops) (t:=(t:Int)) (k:=k);have l2:=uI (ops:=ops) (t:=(t:Int)) (k:=k);have l3:=su (ops:=ops) (key:=(idx ops (k:Int)).Key) (p:=k);have hn:∀ key,k < ops.length→qM ops key (k + 1)=_:=fun key hk=>vk hk
  rw [hw]
  refine ay (fun a2 => ?_) (fun a2 => ?_)
  ·have a1:k < ops.length:=by omega
   obtain ⟨o1,o2,o3⟩:=hall k a1;have a3:w64 ((idx ops (k:Int)).Kind - 4)=(idx ops (k:Int)).Kind - 4:=bD (by omega) (by omega);have hbf:=wM ((idx ops (k:Int)).Kind - 4) (s:=(idx ops (k:Int)).Vals) (args:=qM ops (idx ops (k:Int)).Key k) (by omega) (by omega);have hcl:dZ (idx ops (k:Int)).Vals=some (idx ops (k:Int)).Vals:=iH _ (by omega)
   rw [a3,hbf,hcl]
   simp only [List.length_append]
   have hA:=uH (ops:=ops) (t:=(t:Int)) (k:=k);have hB:=tH (ops:=ops) (t:=(t:Int)) (k:=k);have hnil:∀ l:List Int,l=[]↔l.length=0:=fun l=>List.length_eq_zero_iff.symm;unfold wQ at hA;unfold xP at hB
   dsimp only at hA hB
   repeat' (first | contradiction | with_reducible refine ay (fun hq => ?_) (fun hq => ?_) | with_reducible refine ai (by first | omega | grind [bD]) ?_ | with_reducible refine aI ?_ | with_reducible refine bE ?_ | with_reducible refine bR ?_ | with_reducible refine bP ?_ | with_reducible refine bU ?_ | with_reducible refine ah ?_)
   all_goals (refine ⟨a1,?_,?_,fun key => ?_,rfl⟩ <;> dsimp only)
   all_goals grind [ol]
  ·have:k=ops.length:=by omega
   subst this
   repeat' (first | contradiction | with_reducible refine ay (fun hq => ?_) (fun hq => ?_) | with_reducible refine ai (by first | omega | grind [bD]) ?_ | with_reducible refine aI ?_ | with_reducible refine bE ?_ | with_reducible refine bR ?_ | with_reducible refine bP ?_ | with_reducible refine bU ?_ | with_reducible refine ah ?_)
   rfl
theorem FN {k:Int} (h1:5≤k) (h8:k≤8):typ k=k - 4:=by unfold typ; omega
theorem BK {h:History} {t:Nat} (ht:t < h.Txns.length) (ho:DZ (idx h.Txns (t:Int)).Ops) :
  aP h (t:Int)=some (pM h (t:Int),qW h (t:Int)):=by
 refine gN.1 ?_;unfold aP pM qW;refine ai (by omega) ?_;refine ay (fun h1 => ?_) (fun h1 => ?_)
 ·rw [if_neg h1,if_neg h1]
  exact ah rfl
 ·have h1:(idx h.Txns (t:Int)).Status=1:=Decidable.of_not_not h1
  rw [if_pos h1,if_pos h1]
  generalize hx:(idx h.Txns (t:Int)).Ops=ops at ho ⊢;obtain ⟨a4,hall⟩:=ho;refine dB (k0:=0) ops.length (fun k s=>s=(pJ ops (t:Int) k,pY ops (t:Int) k,(k:Int))) (Nat.zero_le _) rfl ?_;rintro k s hk rfl;have l1:=wh (ops:=ops) (t:=(t:Int)) (k:=k);have l2:=uI (ops:=ops) (t:=(t:Int)) (k:=k);have l3:=su (ops:=ops) (key:=(idx ops (k:Int)).Key) (p:=k);have hw:w64 ((k:Int) + 1)=((k + 1:Nat):Int):=aX (by omega);unfold nS gp
  simp only [hx]
  refine ay (fun a2 => ?_) (fun a2 => ?_)
  ·have a1:k < ops.length:=by omega
   obtain ⟨o1,o2,o3⟩:=hall k a1;have hA:=uH (ops:=ops) (t:=(t:Int)) (k:=k);have hB:=tH (ops:=ops) (t:=(t:Int)) (k:=k);unfold wQ at hA;unfold xP at hB
   dsimp only at hA hB
   refine ai (by omega) (bE (ay (fun a3 => ?_) (fun a3 => ?_)))
   ·unfold fw
    rw [hw]
    refine ah ⟨a1,?_⟩
    grind
   ·refine dB (k0:=0) k (fun j s=>s=(qM ops (idx ops (k:Int)).Key j,(j:Int))) (Nat.zero_le _) rfl ?_;rintro j s hj rfl;have l4:=su (ops:=ops) (key:=(idx ops (k:Int)).Key) (p:=j);have hwj:w64 ((j:Int) + 1)=((j + 1:Nat):Int):=aX (by omega);have hn:j < ops.length→qM ops (idx ops (k:Int)).Key (j + 1)=_:=fun hk=>vk hk;have hbf:=yw ((idx ops (k:Int)).Kind - 4) (s:=(idx ops (k:Int)).Vals) (args:=qM ops (idx ops (k:Int)).Key j) (by omega) (by omega);have hty:iD (idx ops (k:Int)).Kind=some ((idx ops (k:Int)).Kind - 4):=by rw [yJ o1 o2,FN (by omega) o2]
    unfold nR kQ kR kP fw gp
    simp only [cond_true,cond_false,hx,hw,hwj,hty,hbf,List.nil_append]
    have hnil:∀ l:List Int,l=[]↔l.length=0:=fun l=>List.length_eq_zero_iff.symm
    repeat' (first | contradiction | with_reducible refine ay (fun hq => ?_) (fun hq => ?_) | with_reducible refine ai (by first | omega | grind [bD]) ?_ | with_reducible refine aI ?_ | with_reducible refine bE ?_ | with_reducible refine bR ?_ | with_reducible refine bP ?_ | with_reducible refine bU ?_ | with_reducible refine ah ?_ | refine dC hbf ?_)
    all_goals grind [Upm]
  ·have:k=ops.length:=by omega
   subst this
   repeat' (first | contradiction | with_reducible refine ay (fun hq => ?_) (fun hq => ?_) | with_reducible refine ai (by first | omega | grind [bD]) ?_ | with_reducible refine aI ?_ | with_reducible refine bE ?_ | with_reducible refine bR ?_ | with_reducible refine bP ?_ | with_reducible refine bU ?_ | with_reducible refine ah ?_)
   rfl
end Go.Proofs.YtmfgddafcgflaaaGreatT
namespace Go.Proofs.YtmfgddafcgflaaaGreatT
open Go Go.Proofs Go.Proofs.YtmfgddafcgflaaaGreatE
set_option linter.unusedVariables false
set_option linter.unusedSimpArgs false
theorem zU {a b:List Int} (ha:a.length < 2 ^ 62):bT a b=some (decide (a=b)):=by
 refine IL.1 ?_;unfold bT;refine ay (fun h => ?_) (fun h => ?_)
 ·refine ah ?_;have:a≠b:=by rintro rfl; exact h rfl
  simp [this]
 ·have hl:a.length=b.length:=by grind
  refine jX a.length (fun j=>idx a (j:Int)=idx b (j:Int)) ?_;intro k hk hJ;have hw:w64 ((k:Int) + 1)=((k + 1:Nat):Int):=aX (by omega);have hx:(∀ j:Nat,j < a.length→idx a (j:Int)=idx b (j:Int))→a=b:=fun h=>Cn hl h;unfold gQ
  dsimp only
  rw [hw]
  repeat' (first | contradiction | with_reducible refine ay (fun hq => ?_) (fun hq => ?_) | with_reducible refine ai (by first | omega | grind [bD]) ?_ | with_reducible refine aI ?_ | with_reducible refine bE ?_ | with_reducible refine bR ?_ | with_reducible refine bP ?_ | with_reducible refine bU ?_ | with_reducible refine ah ?_)
  ·show false=true↔a=b
   grind
  ·exact ⟨rfl,by omega,by grind⟩
  ·show true=true↔a=b
   grind
theorem EJ {h:History} (hs:nY h):df h=some h:=by
 obtain ⟨h1,h2,h3⟩:=hs;refine gN.1 ?_;unfold df;refine ai (by omega) ?_;refine dB (k0:=0) h.Txns.length (fun k s=>s=(h.Txns.take k,(k:Int))) (Nat.zero_le _) rfl ?_;rintro k s hk rfl;unfold lT
 dsimp only
 refine ay (fun a5 => ?_) (fun a5 => ?_)
 ·have a1:k < h.Txns.length:=by omega
  obtain ⟨t1,t2⟩:=h3 k a1;have hT:=lI a1;generalize hx:idx h.Txns (k:Int)=t at t1 t2 hT;have hl:(h.Txns.take k).length=k:=by simp; omega
  refine ai (by omega) ?_;refine dB (k0:=0) t.Ops.length (fun j s=>s=(t.Ops.take j,(j:Int))) (Nat.zero_le _) rfl ?_;rintro j s hj rfl;have hwj:w64 ((j:Int) + 1)=((j + 1:Nat):Int):=aX (by omega);have hwk:w64 ((k:Int) + 1)=((k + 1:Nat):Int):=aX (by omega);have a4:(t.Ops.take j).length=j:=by simp; omega
  unfold lS
  simp only [hx,hl,a4,hwj,hwk,List.nil_append]
  refine ay (fun a3 => ?_) (fun a3 => ?_)
  ·have a2:j < t.Ops.length:=by omega
   have t3:=t2 j a2;refine ai (by omega) (ai (by omega) (ai (by omega) (ah ⟨a2,?_⟩)))
   dsimp only
   rw [lI a2]
  ·refine ai (by omega) (aI (ah ⟨a1,?_⟩))
   dsimp only
   rw [hT,List.take_of_length_le (show t.Ops.length≤j by omega)]
 ·refine aI (ah ?_)
  rw [List.take_of_length_le (show h.Txns.length≤k by omega)]
  rfl
theorem EK {h:History} (hs:nY h):az h h=some true:=by
 obtain ⟨h1,h2,h3⟩:=hs;refine gN.1 ?_;unfold az jH
 simp only [cond_true,cond_false,bne_self_eq_false]
 refine jX h.Keys.length (fun _=>True) ?_;intro k hk hJ;have hw:w64 ((k:Int) + 1)=((k + 1:Nat):Int):=aX (by omega);unfold lZ
 dsimp only
 refine ay (fun a1 => ?_) (fun a1 => ?_)
 ·repeat' (first | contradiction | with_reducible refine ay (fun hq => ?_) (fun hq => ?_) | with_reducible refine ai (by first | omega | grind [bD]) ?_ | with_reducible refine aI ?_ | with_reducible refine bE ?_ | with_reducible refine bR ?_ | with_reducible refine bP ?_ | with_reducible refine bU ?_ | with_reducible refine ah ?_)
  exact ⟨hw,by omega,trivial⟩
 ·refine jX h.Txns.length (fun _=>True) ?_;intro i hi hJ;have hwi:w64 ((i:Int) + 1)=((i + 1:Nat):Int):=aX (by omega);unfold lY lX eQ
  simp only [cond_true,cond_false,bne_self_eq_false]
  refine ay (fun a3 => ?_) (fun a3 => ?_)
  ·obtain ⟨t1,t2⟩:=h3 i (by omega);refine ai (by omega) (ai (by omega) ?_);refine jX (idx h.Txns (i:Int)).Ops.length (fun _=>True) ?_;intro j hj hJ;have hwj:w64 ((j:Int) + 1)=((j + 1:Nat):Int):=aX (by omega);unfold lW lV eP
   simp only [cond_true,cond_false,bne_self_eq_false]
   refine ay (fun a2 => ?_) (fun a2 => ?_)
   ·have t3:=t2 j (by omega);have hv:=zU (a:=(idx (idx h.Txns (i:Int)).Ops (j:Int)).Vals) (b:=(idx (idx h.Txns (i:Int)).Ops (j:Int)).Vals) (by omega)
    repeat' (first | contradiction | with_reducible refine ay (fun hq => ?_) (fun hq => ?_) | with_reducible refine ai (by first | omega | grind [bD]) ?_ | with_reducible refine aI ?_ | with_reducible refine bE ?_ | with_reducible refine bR ?_ | with_reducible refine bP ?_ | with_reducible refine bU ?_ | with_reducible refine ah ?_ | refine dC hv ?_)
    all_goals grind [Nxt]
   ·repeat' (first | contradiction | with_reducible refine ay (fun hq => ?_) (fun hq => ?_) | with_reducible refine ai (by first | omega | grind [bD]) ?_ | with_reducible refine aI ?_ | with_reducible refine bE ?_ | with_reducible refine bR ?_ | with_reducible refine bP ?_ | with_reducible refine bU ?_ | with_reducible refine ah ?_)
    exact ⟨hwi,by omega,trivial⟩
  ·repeat' (first | contradiction | with_reducible refine ay (fun hq => ?_) (fun hq => ?_) | with_reducible refine ai (by first | omega | grind [bD]) ?_ | with_reducible refine aI ?_ | with_reducible refine bE ?_ | with_reducible refine bR ?_ | with_reducible refine bP ?_ | with_reducible refine bU ?_ | with_reducible refine ah ?_)
   rfl
end Go.Proofs.YtmfgddafcgflaaaGreatT
namespace Go.Proofs.YtmfgddafcgflaaaGreatT
open Go Go.Proofs Go.Proofs.YtmfgddafcgflaaaGreatE
set_option linter.unusedVariables false
set_option linter.unusedSimpArgs false
abbrev OG (y:Op):Prop:=((Lit.int .i64 (y).Kind).wf=true)∧((Lit.int .i64 (y).Key).wf=true)∧((Lit.int .i64 (y).Arg).wf=true)∧(True)∧((∀ z ∈ (y).Vals,(Lit.int .i64 z).wf=true)∧((y).Vals).length * 8≤140737488351232)
abbrev TG (y:Txn):Prop:=((Lit.int .i64 (y).Proc).wf=true)∧((Lit.int .i64 (y).Status).wf=true)∧((Lit.int .i64 (y).From).wf=true)∧((Lit.int .i64 (y).To).wf=true)∧((∀ z ∈ (y).Ops,OG z)∧((y).Ops).length * 56≤140737488351232)
abbrev HG (K:ByteArray→Prop) (x:History):Prop:=((∀ y ∈ (x).Keys,K y)∧((x).Keys).length * 16≤140737488351232)∧((∀ y ∈ (x).Txns,TG y)∧((x).Txns).length * 56≤140737488351232)
theorem HG.small {K:ByteArray→Prop} {h:History} (g:HG K h):nY h :=
 ⟨g.1.2,g.2.2,uN.2 fun t ht=>⟨(g.2.1 t ht).2.2.2.2.2,uN.2 fun o ho=>((g.2.1 t ht).2.2.2.2.1 o ho).2.2.2.2.2⟩⟩
theorem wR {h:History} {t:Nat} (ho:DZ (idx h.Txns (t:Int)).Ops):(pM h (t:Int)).length≤16∧(qW h (t:Int)).length≤16∧qN (pM h (t:Int)) (fun x=>x.Base.length < 2 ^ 62):=by
 have h1:=wh (ops:=(idx h.Txns (t:Int)).Ops) (t:=(t:Int)) (k:=(idx h.Txns (t:Int)).Ops.length);have h2:=uI (ops:=(idx h.Txns (t:Int)).Ops) (t:=(t:Int)) (k:=(idx h.Txns (t:Int)).Ops.length);have h3:=ho.1;refine ⟨?_,?_,?_⟩
 ·unfold pM; split
  ·omega
  ·simp
 ·unfold qW; split
  ·omega
  ·simp
 ·rw [uN]
  intro x hx;unfold pM at hx
  split at hx
  ·unfold pJ at hx
   rw [List.mem_flatMap] at hx
   obtain ⟨p,hp,hx⟩:=hx;have hp:p < _:=List.mem_range.1 hp;have hv:=(ho.2 p hp).2.2;have hb:=AO ((idx (idx h.Txns (t:Int)).Ops (p:Int)).Kind - 4) (idx (idx h.Txns (t:Int)).Ops (p:Int)).Vals (qM (idx h.Txns (t:Int)).Ops (idx (idx h.Txns (t:Int)).Ops (p:Int)).Key p);unfold wQ at hx
   dsimp only at hx
   split at hx
   ·simp at hx
   ·split at hx
    ·simp at hx; subst hx; dsimp only; omega
    ·split at hx
     ·simp at hx; subst hx; dsimp only; omega
     ·simp at hx
  ·simp at hx
end Go.Proofs.YtmfgddafcgflaaaGreatT
namespace Go.Proofs.YtmfgddafcgflaaaGreatT
open Go Go.Proofs Go.Proofs.YtmfgddafcgflaaaGreatE
set_option linter.unusedVariables false
set_option linter.unusedSimpArgs false
def dH (h:History) (k:Nat):List Ask:=(List.range k).flatMap (fun t=>pM h ((t:Nat):Int))
def gM (h:History) (k:Nat):List eZ:=(List.range k).flatMap (fun t=>qW h ((t:Nat):Int))
theorem tJ {h:History} {k:Nat}:dH h (k + 1)=dH h k++pM h (k:Int):=by
 unfold dH; rw [List.range_succ,List.flatMap_append]; simp
theorem rJ {h:History} {k:Nat}:gM h (k + 1)=gM h k++qW h (k:Int):=by
 unfold gM; rw [List.range_succ,List.flatMap_append]; simp
theorem sw {h:History} (hS:gY h):∀ k:Nat,k≤h.Txns.length→(dH h k).length≤16 * k∧(gM h k).length≤16 * k∧qN (dH h k) (fun x=>x.Base.length < 2 ^ 62):=by
 intro k
 induction k with
 | zero=>intro _; simp [dH,gM,qN]
 | succ k ih =>
  intro hk;obtain ⟨i1,i2,i3⟩:=ih (by omega);obtain ⟨b1,b2,b3⟩:=wR (hS.txn k (by omega)).ops
  rw [tJ,rJ,List.length_append,List.length_append]
  refine ⟨by omega,by omega,?_⟩
  rw [uN] at i3 b3 ⊢
  intro x hx;rcases List.mem_append.1 hx with hx | hx
  ·exact i3 x hx
  ·exact b3 x hx
theorem zk {h:History} (hs:nY h) (hS:gY h) (hc:aN h=some 0):jK h=some (⟨dH h h.Txns.length,gM h h.Txns.length⟩,0):=by
 have a3:=hS.len;refine gN.1 ?_;unfold jK;refine dC hc ?_
 rw [bne_self_eq_false,cond_false]
 refine dB (k0:=0) h.Txns.length (fun k s=>s=(dH h k,gM h k,(k:Int))) (Nat.zero_le _) rfl ?_;rintro k s hk rfl;have hw:w64 ((k:Int) + 1)=((k + 1:Nat):Int):=aX (by omega);obtain ⟨i1,i2,i3⟩:=sw hS k hk;unfold sN
 dsimp only
 refine ay (fun a2 => ?_) (fun a2 => ?_)
 ·have a1:k < h.Txns.length:=by omega
  refine cZ (EI a1 (hS.txn k a1).ops (by dsimp only; omega) (by dsimp only; omega)) (fun r hr => ?_);subst hr;refine ah ⟨a1,?_⟩
  dsimp only
  rw [hw,tJ,rJ]
 ·have:k=h.Txns.length:=by omega
  subst this;exact aI (ah rfl)
theorem BL {h:History} (hs:nY h) (hS:gY h):eY h=some (dH h h.Txns.length,gM h h.Txns.length):=by
 have a3:=hS.len;refine gN.1 ?_;unfold eY;refine dB (k0:=0) h.Txns.length (fun k s=>s=(dH h k,gM h k,(k:Int))) (Nat.zero_le _) rfl ?_;rintro k s hk rfl;have hw:w64 ((k:Int) + 1)=((k + 1:Nat):Int):=aX (by omega);obtain ⟨i1,i2,i3⟩:=sw hS k hk;unfold mV
 dsimp only
 refine ay (fun a2 => ?_) (fun a2 => ?_)
 ·have a1:k < h.Txns.length:=by omega
  have ho:=(hS.txn k a1).ops;obtain ⟨b1,b2,b3⟩:=wR ho;refine dC (BK a1 ho) ?_
  dsimp only
  refine ai (by omega) (ai (by omega) (ah ⟨a1,?_⟩))
  dsimp only
  rw [hw,tJ,rJ]
 ·have:k=h.Txns.length:=by omega
  subst this;exact aI (ah rfl)
end Go.Proofs.YtmfgddafcgflaaaGreatT
namespace Go.Proofs.YtmfgddafcgflaaaGreatT
open Go Go.Proofs Go.Proofs.YtmfgddafcgflaaaGreatE
set_option linter.unusedVariables false
set_option linter.unusedSimpArgs false
def lH (h:History) (t:Int) (key:Int):List Int:=qM (idx h.Txns t).Ops key (idx h.Txns t).Ops.length
theorem BN {h:History} {t key:Int}:(lH h t key).length≤(idx h.Txns t).Ops.length:=su
theorem zl {x:Txn} {key:Int} (ho:x.Ops.length≤16):dA x key=some (qM x.Ops key x.Ops.length):=by
 refine gN.1 ?_;unfold dA;refine dB (k0:=0) x.Ops.length (fun k s=>s=(qM x.Ops key k,(k:Int))) (Nat.zero_le _) rfl ?_;rintro k s hk rfl;have hw:w64 ((k:Int) + 1)=((k + 1:Nat):Int):=aX (by omega);have l3:=su (ops:=x.Ops) (key:=key) (p:=k);have hn:k < x.Ops.length→qM x.Ops key (k + 1)=_:=fun hk=>vk hk;unfold qh nK nJ
 dsimp only
 rw [hw]
 refine ay (fun a2 => ?_) (fun a2 => ?_)
 ·have a1:k < x.Ops.length:=by omega
  replace hn:=hn a1
  repeat' (first | contradiction | with_reducible refine ay (fun hq => ?_) (fun hq => ?_) | with_reducible refine ai (by first | omega | grind [bD]) ?_ | with_reducible refine aI ?_ | with_reducible refine bE ?_ | with_reducible refine bR ?_ | with_reducible refine bP ?_ | with_reducible refine bU ?_ | with_reducible refine ah ?_)
  all_goals (refine ⟨a1,?_⟩; dsimp only; grind)
 ·have:k=x.Ops.length:=by omega
  subst this
  repeat' (first | contradiction | with_reducible refine ay (fun hq => ?_) (fun hq => ?_) | with_reducible refine ai (by first | omega | grind [bD]) ?_ | with_reducible refine aI ?_ | with_reducible refine bE ?_ | with_reducible refine bR ?_ | with_reducible refine bP ?_ | with_reducible refine bU ?_ | with_reducible refine ah ?_)
  all_goals rfl
def FO (h:History) (key:Int) (t:Nat):Bool:=decide ((idx h.Txns (t:Int)).Status≠2∧0 < (lH h (t:Int) key).length)
def jN (h:History) (key:Int) (k:Nat):List Int:=((List.range k).filter (FO h key)).map (fun t:Nat=>(t:Int))
theorem zm {h:History} {key:Int} {k:Nat}:jN h key (k + 1)=if FO h key k then jN h key k++[(k:Int)] else jN h key k:=by
 unfold jN
 rw [List.range_succ,List.filter_append,List.map_append]
 by_cases hw:FO h key k=true <;> simp [hw]
theorem vM {h:History} {key:Int} {k:Nat}:(jN h key k).length≤k:=by
 unfold jN
 rw [List.length_map]
 exact Nat.le_trans (List.length_filter_le _ _) (by simp)
theorem BO {h:History} {key:Int} {k:Nat} {t:Int}:t ∈ jN h key k↔0≤t∧t < (k:Int)∧(idx h.Txns t).Status≠2∧0 < (lH h t key).length:=by
 unfold jN
 simp only [List.mem_map,List.mem_filter,List.mem_range,FO,decide_eq_true_eq]
 constructor
 ·rintro ⟨n,⟨hn,h1,h2⟩,rfl⟩;exact ⟨by omega,by omega,h1,h2⟩
 ·rintro ⟨h0,h1,h2,h3⟩;refine ⟨t.toNat,⟨by omega,?_⟩,by omega⟩
  rw [show ((t.toNat:Nat):Int)=t by omega]
  exact ⟨h2,h3⟩
theorem AR {h:History} (hS:gY h) (hc:aN h=some 0) {key:Int}:bX h key=some (jN h key h.Txns.length):=by
 have a3:=hS.len;refine gN.1 ?_;unfold bX;refine dC hc ?_
 rw [bne_self_eq_false,cond_false]
 refine dB (k0:=0) h.Txns.length (fun k s=>s=(jN h key k,(k:Int))) (Nat.zero_le _) rfl ?_;rintro k s hk rfl;have hw:w64 ((k:Int) + 1)=((k + 1:Nat):Int):=aX (by omega);have l3:=vM (h:=h) (key:=key) (k:=k);have hn:=zm (h:=h) (key:=key) (k:=k);unfold FO lH at hn;unfold oD lF lD
 dsimp only
 rw [hw]
 refine ay (fun a2 => ?_) (fun a2 => ?_)
 ·have a1:k < h.Txns.length:=by omega
  have hwt:=zl (x:=idx h.Txns (k:Int)) (key:=key) (hS.txn k a1).ops.1
  simp only [hwt,Option.bind_some]
  repeat' (first | contradiction | with_reducible refine ay (fun hq => ?_) (fun hq => ?_) | with_reducible refine ai (by first | omega | grind [bD]) ?_ | with_reducible refine aI ?_ | with_reducible refine bE ?_ | with_reducible refine bR ?_ | with_reducible refine bP ?_ | with_reducible refine bU ?_ | with_reducible refine ah ?_)
  all_goals (refine ⟨a1,?_⟩; dsimp only; grind)
 ·have:k=h.Txns.length:=by omega
  subst this
  repeat' (first | contradiction | with_reducible refine ay (fun hq => ?_) (fun hq => ?_) | with_reducible refine ai (by first | omega | grind [bD]) ?_ | with_reducible refine aI ?_ | with_reducible refine bE ?_ | with_reducible refine bR ?_ | with_reducible refine bP ?_ | with_reducible refine bU ?_ | with_reducible refine ah ?_)
  all_goals rfl
theorem Da {h:History} (hS:gY h) (hc:aN h=some 0) {t key:Int}:gF h t key =
  some (if 0≤t∧t < (h.Txns.length:Int) then (lH h t key,decide (0 < (lH h t key).length)) else ([],false)):=by
 refine gN.1 ?_;unfold gF kY
 simp only [hc,Option.bind_some]
 by_cases ht:0≤t∧t < (h.Txns.length:Int)
 ·have h2:t=((t.toNat:Nat):Int):=by omega
  have ho:=(hS.txn t.toNat (by omega)).ops.1
  rw [← h2] at ho
  have hwt:=zl (x:=idx h.Txns t) (key:=key) ho
  simp only [hwt,Option.bind_some]
  rw [if_pos ht]
  unfold lH
  repeat' (first | contradiction | with_reducible refine ay (fun hq => ?_) (fun hq => ?_) | with_reducible refine ai (by first | omega | grind [bD]) ?_ | with_reducible refine aI ?_ | with_reducible refine bE ?_ | with_reducible refine bR ?_ | with_reducible refine bP ?_ | with_reducible refine bU ?_ | with_reducible refine ah ?_)
  all_goals (first | omega | simp)
 ·rw [if_neg ht]
  repeat' (first | contradiction | with_reducible refine ay (fun hq => ?_) (fun hq => ?_) | with_reducible refine ai (by first | omega | grind [bD]) ?_ | with_reducible refine aI ?_ | with_reducible refine bE ?_ | with_reducible refine bR ?_ | with_reducible refine bP ?_ | with_reducible refine bU ?_ | with_reducible refine ah ?_)
  all_goals (first | omega | rfl | simp)
end Go.Proofs.YtmfgddafcgflaaaGreatT
namespace Go.Proofs.YtmfgddafcgflaaaGreatT
open Go Go.Proofs Go.Proofs.YtmfgddafcgflaaaGreatE
set_option linter.unusedVariables false
set_option linter.unusedSimpArgs false
def opAt (h:History) (t p:Int):Op:=idx (idx h.Txns t).Ops p
theorem Ea {h:History} {n t p:Nat} (ht:t < n) (hp:p < (idx h.Txns (t:Int)).Ops.length):(uE h (opAt h (t:Int) (p:Int)),(t:Int)) ∈ pU h n:=by
 unfold pU zi cB opAt
 rw [List.mem_flatMap]
 refine ⟨t,List.mem_range.2 ht,?_⟩
 rw [List.map_map,List.mem_map]
 refine ⟨idx (idx h.Txns (t:Int)).Ops (p:Int),?_,rfl⟩
 rw [dV (n:=p) rfl hp]
 exact List.getElem_mem _
theorem FP {L:List (Call×Int)} (h:oh [] L) {e f:Call×Int} (he:e ∈ L) (hf:f ∈ L) (hk:e.1.Key=f.1.Key):typ e.1.Kind=typ f.1.Kind:=by
 obtain ⟨i,hi,rfl⟩:=List.getElem_of_mem he;obtain ⟨j,hj,rfl⟩:=List.getElem_of_mem hf;rcases Nat.lt_trichotomy i j with hij | hij | hij
 ·have:=(h j hj).1 L[i] (by rw [List.nil_append]; exact List.mem_take_iff_getElem.2 ⟨i,by omega,rfl⟩) (by rw [dV (n:=j) rfl hj]; exact hk)
  rwa [dV (n:=j) rfl hj] at this
 ·subst hij; rfl
 ·have:=(h i hi).1 L[j] (by rw [List.nil_append]; exact List.mem_take_iff_getElem.2 ⟨j,by omega,rfl⟩) (by rw [dV (n:=i) rfl hi]; exact hk.symm)
  rw [dV (n:=i) rfl hi] at this
  exact this.symm
theorem FQ {h:History} (hS:gY h) {t p t' p':Nat} (ht:t < h.Txns.length) (hp:p < (idx h.Txns (t:Int)).Ops.length) (ht':t' < h.Txns.length) (hp':p' < (idx h.Txns (t':Int)).Ops.length)
  (hk:(opAt h (t:Int) (p:Int)).Key=(opAt h (t':Int) (p':Int)).Key):typ (opAt h (t:Int) (p:Int)).Kind=typ (opAt h (t':Int) (p':Int)).Kind :=
 FP hS.ents (Ea ht hp) (Ea ht' hp') (by show idx h.Keys _=idx h.Keys _; rw [hk])
theorem Eb {h:History} (hS:gY h) {t p:Nat} (ht:t < h.Txns.length) (hp:p < (idx h.Txns (t:Int)).Ops.length):1≤(opAt h (t:Int) (p:Int)).Kind∧(opAt h (t:Int) (p:Int)).Kind≤8:=by
 obtain ⟨h1,h2⟩:=(hS.txn t ht).ops;have:=h2 p hp;exact ⟨this.1,this.2.1⟩
theorem EL {h:History} (hS:gY h) (hc:aN h=some 0) {key:Int} {t0 p0:Nat} (a6:t0 < h.Txns.length) (a4:p0 < (idx h.Txns (t0:Int)).Ops.length) (a3:(opAt h (t0:Int) (p0:Int)).Key=key) :
  eO h key=some (typ (opAt h (t0:Int) (p0:Int)).Kind):=by
 have b1:=hS.len;refine gN.1 ?_;unfold eO;refine dC hc ?_
 rw [bne_self_eq_false,cond_false]
 refine dB (k0:=0) h.Txns.length (fun k s=>s=(k:Int)∧∀ t p:Nat,t < k→p < (idx h.Txns (t:Int)).Ops.length→(opAt h (t:Int) (p:Int)).Key≠key) (Nat.zero_le _) ⟨rfl,fun t p h=>absurd h (Nat.not_lt_zero _)⟩ ?_;rintro k s hk ⟨rfl,hno⟩;have hw:w64 ((k:Int) + 1)=((k + 1:Nat):Int):=aX (by omega);unfold rC;refine ay (fun a8 => ?_) (fun a8 => ?_)
 ·have a1:k < h.Txns.length:=by omega
  refine ai (by omega) ?_;have b0:=(hS.txn k a1).ops.1;refine dB (k0:=0) (idx h.Txns (k:Int)).Ops.length (fun m s=>s=(m:Int)∧∀ p:Nat,p < m→(opAt h (k:Int) (p:Int)).Key≠key) (Nat.zero_le _) ⟨rfl,fun p h=>absurd h (Nat.not_lt_zero _)⟩ ?_;rintro m s hm ⟨rfl,a5⟩;have a7:w64 ((m:Int) + 1)=((m + 1:Nat):Int):=aX (by omega);unfold rA
  dsimp only
  rw [hw,a7]
  refine ay (fun a9 => ?_) (fun a9 => ?_)
  ·have a2:m < (idx h.Txns (k:Int)).Ops.length:=by omega
   refine ai (by omega) ?_;refine ay (fun he => ?_) (fun he => ?_)
   ·obtain ⟨k1,k2⟩:=Eb hS a1 a2;refine dC (uG k1 k2) (aI (aI (ah ?_)));exact FQ hS a1 a2 a6 a4 ((show (opAt h (k:Int) (m:Int)).Key=key from he).trans a3.symm)
   ·refine ah ⟨a2,rfl,fun p hp => ?_⟩;rcases Nat.lt_or_ge p m with h1 | h1
    ·exact a5 p h1
    ·have:p=m:=by omega
     subst this;exact he
  ·have:m=(idx h.Txns (k:Int)).Ops.length:=by omega
   subst this;refine aI (ah ⟨a1,rfl,fun t p ht hp => ?_⟩);rcases Nat.lt_or_ge t k with h1 | h1
   ·exact hno t p h1 hp
   ·have:t=k:=by omega
    subst this;exact a5 p hp
 ·have:k=h.Txns.length:=by omega
  subst this;exact absurd a3 (hno t0 p0 a6 a4)
end Go.Proofs.YtmfgddafcgflaaaGreatT
namespace Go.Proofs.YtmfgddafcgflaaaGreatT
open Go Go.Proofs Go.Proofs.YtmfgddafcgflaaaGreatE
set_option linter.unusedVariables false
set_option linter.unusedSimpArgs false
structure Jm (h:History) (a:Ask) (t p:Nat):Prop where
 tl:t < h.Txns.length
 pl:p < (idx h.Txns (t:Int)).Ops.length
 e1:a.Txn=(t:Int)
 e2:a.Place=(p:Int)
 e3:a.Key=(opAt h (t:Int) (p:Int)).Key
 rd:5≤(opAt h (t:Int) (p:Int)).Kind
 b64:a.Base.length≤64
 b4:typ (opAt h (t:Int) (p:Int)).Kind=4→a.Base.length=1
 b3:typ (opAt h (t:Int) (p:Int)).Kind=3→a.Base.Nodup
theorem Ah {s:List Int} (h:Asc s):s.Nodup:=by
 exact (vg.1 h).imp (fun h=>by omega)
theorem Jt {h:History} (hS:gY h) {a:Ask} (ha:a ∈ dH h h.Txns.length):∃ t p,Jm h a t p:=by
 unfold dH at ha;obtain ⟨t,ht,ha⟩:=List.mem_flatMap.1 ha;have ht:=List.mem_range.1 ht;unfold pM at ha
 split at ha
 case isFalse=>cases ha
 case isTrue hst =>
 unfold pJ at ha;obtain ⟨p,hp,ha⟩:=List.mem_flatMap.1 ha;have hp:=List.mem_range.1 hp;refine ⟨t,p,?_⟩;obtain ⟨k1,k8⟩:=Eb hS ht hp;obtain ⟨_,_,_,_,_,hcs⟩:=hS.txn t ht;have hc:=hcs p (by simpa [vJ,cB] using hp)
 dsimp only [vJ,cB] at hc
 rw [vo hp] at hc
 unfold pI uE at hc
 dsimp only at hc
 unfold wQ at ha
 dsimp only at ha
 have ho:idx (idx h.Txns (t:Int)).Ops (p:Int)=opAt h (t:Int) (p:Int):=rfl
 rw [ho] at ha hc
 generalize opAt h (t:Int) (p:Int)=o at ha hc k1 k8 ho;obtain ⟨c1,c8,c3,c4,c5,c6⟩:=hc;have hoo:opAt h (t:Int) (p:Int)=o:=ho
 split at ha
 ·cases ha
 ·rename_i h4
  obtain ⟨d1,d2,d3,d4⟩:=c6 (by omega);have hg:o.Got=true:=d2.2 hst;obtain ⟨f1,f2,f3,f4⟩:=d4 hg
  split at ha
  ·rw [List.mem_singleton] at ha
   subst ha;exact ⟨ht,hp,rfl,rfl,by rw [hoo],by rw [hoo]; omega,f4,fun h=>f2 (by rw [hoo] at h; unfold typ at h; omega),fun h=>Ah (f3 (by rw [hoo] at h; unfold typ at h; omega))⟩
  ·split at ha
   ·rename_i hb
    rw [List.mem_singleton] at ha
    subst ha;obtain ⟨hb,h5⟩:=hb;refine ⟨ht,hp,rfl,rfl,by rw [hoo],by rw [hoo]; omega,?_,fun h => ?_,fun h => ?_⟩
    ·dsimp only
     unfold before;have:=List.length_filter_le (fun x=>decide (x ∉ qM (idx h.Txns (t:Int)).Ops o.Key p)) o.Vals
     split
     ·simp
     ·split
      ·simp
      ·split
       ·split
        ·simp; omega
        ·simp
       ·split
        ·split
         ·dsimp only; omega
         ·simp
        ·simp
    ·have h8:o.Kind=8:=by rw [hoo] at h; unfold typ at h; omega
     dsimp only
     unfold before at hb ⊢
     rw [h8] at hb ⊢
     split at hb
     ·cases hb
     ·rename_i hq
      rw [if_neg hq]
      simp
    ·have h7:o.Kind=7:=by rw [hoo] at h; unfold typ at h; omega
     have hnd:=Ah (f3 h7)
     dsimp only
     unfold before
     rw [h7]
     split
     ·simp
     ·simp only [show ¬ ((7:Int) - 4=1) by omega,show ¬ ((7:Int) - 4=2) by omega,if_false]
      split
      ·split
       ·exact hnd.filter _
       ·simp
      ·rename_i h0
       exact absurd (show (7:Int) - 4=3 by omega) h0
   ·cases ha
end Go.Proofs.YtmfgddafcgflaaaGreatT
namespace Go.Proofs.YtmfgddafcgflaaaGreatT
open Go Go.Proofs Go.Proofs.YtmfgddafcgflaaaGreatE
set_option linter.unusedVariables false
set_option linter.unusedSimpArgs false
section
variable {O:List Int} {W:Int→List Int}
theorem tK {l:List Int} {j:Nat} (hj:j < l.length):idx l (j:Int) ∈ l:=by rw [dV (n:=j) rfl hj]; exact List.getElem_mem _
theorem AU {l:List Int} {t:Int} (h:t ∈ l):∃ j:Nat,j < l.length∧idx l (j:Int)=t:=by
 obtain ⟨j,hj,e⟩:=List.getElem_of_mem h;exact ⟨j,hj,(dV rfl hj).trans e⟩
end
end Go.Proofs.YtmfgddafcgflaaaGreatT
namespace Go.Proofs.YtmfgddafcgflaaaGreatT
open Go Go.Proofs Go.Proofs.YtmfgddafcgflaaaGreatE
set_option linter.unusedVariables false
set_option linter.unusedSimpArgs false
section
variable {O:List Int} {W:Int→List Int} {rest l:List Int}
end
end Go.Proofs.YtmfgddafcgflaaaGreatT
namespace Go.Proofs.YtmfgddafcgflaaaGreatT
open Go Go.Proofs Go.Proofs.YtmfgddafcgflaaaGreatE
set_option linter.unusedVariables false
set_option linter.unusedSimpArgs false
section
variable {O:List Int} {W:Int→List Int} {rest l:List Int}
end
end Go.Proofs.YtmfgddafcgflaaaGreatT
namespace Go.Proofs.YtmfgddafcgflaaaGreatT
open Go Go.Proofs Go.Proofs.YtmfgddafcgflaaaGreatE
set_option linter.unusedVariables false
set_option linter.unusedSimpArgs false
theorem yK {l:List Int}:∀ {m:List Int},l.Nodup→(∀ x ∈ l,x ∈ m)→l.length≤m.length:=by
 induction l with
 | nil=>intro m _ _; simp
 | cons x l ih =>
  intro m hn hs;obtain ⟨h1,h2⟩:=List.nodup_cons.1 hn;have hx:=hs x (by simp);have:=ih (m:=m.erase x) h2 (fun y hy=>(List.mem_erase_of_ne (fun (e:y=x)=>h1 (e ▸ hy))).2 (hs y (by simp [hy])))
  rw [List.length_erase_of_mem hx] at this
  have:0 < m.length:=List.length_pos_of_mem hx
  simp
  omega
def cnt (base w:List Int):Nat:=(w.filter (fun v=>decide (v ∈ base))).length
def Whole (O:List Int) (W:Int→List Int) (base:List Int):Prop:=(∀ t ∈ O,cnt base (W t)=0∨cnt base (W t)=(W t).length)∧∀ v ∈ base,∃ t ∈ O,v ∈ W t
section
variable {O:List Int} {W:Int→List Int} {base:List Int}
end
end Go.Proofs.YtmfgddafcgflaaaGreatT
namespace Go.Proofs.YtmfgddafcgflaaaGreatT
open Go Go.Proofs Go.Proofs.YtmfgddafcgflaaaGreatE
set_option linter.unusedVariables false
set_option linter.unusedSimpArgs false
section
variable {O:List Int} {W:Int→List Int} {base:List Int}
end
end Go.Proofs.YtmfgddafcgflaaaGreatT
namespace Go.Proofs.YtmfgddafcgflaaaGreatT
open Go Go.Proofs Go.Proofs.YtmfgddafcgflaaaGreatE
set_option linter.unusedVariables false
set_option linter.unusedSimpArgs false
def BP (s:Int) (w:List Int):Int:=w.foldl (fun x v=>w64 (x + v)) s
theorem EM {s:Int} {w:List Int} {k:Nat} (hk:k < w.length):BP s (w.take (k + 1))=w64 (BP s (w.take k) + idx w (k:Int)):=by
 unfold BP
 rw [List.take_succ_eq_append_getElem hk,List.foldl_append,(dV (n:=k) rfl hk:idx w (k:Int)=w[k])]
 rfl
section
variable {O:List Int} {W:Int→List Int} {want:Int}
def picks (O:List Int) (f:Nat→Prop) [DecidablePred f] (k:Nat):List Int:=((List.range k).filter (fun j=>decide (f j))).map (fun j:Nat=>idx O (j:Int))
open Classical in
end
end Go.Proofs.YtmfgddafcgflaaaGreatT
