import Derived.Test.YtnlkggppokcmfaaGreatTD
import Derived.Test.YtnlkggppokcmfaaGreatY
import Derived.Test.YtnlkggppokcmfaaGreatTF
namespace Go.Proofs.YtnlkggppokcmfaaGreatT
open Go Go.Proofs Go.Proofs.YtnlkggppokcmfaaGreatE
set_option linter.unusedVariables false
set_option linter.unusedSimpArgs false
def Upm {S Ω:Type} (n k:Nat) (J:Nat→S→Prop) (Q:Ω→Prop):S ⊕ Ω→Prop
 | .inl s'=>k < n∧J (k + 1) s'
 | .inr o=>Q o
theorem dI {S Ω:Type} {step:S→Option (S ⊕ Ω)} {Q:Ω→Prop} (n:Nat) (J:Nat→S→Prop) {s0:S} {k0:Nat} (a0:k0≤n) (h0:J k0 s0)
  (hs:∀ (k:Nat) (s:S),k≤n→J k s→Tri (step s) (Upm n k J Q)):Tri (iter step s0) Q:=by
 generalize hd:n - k0=d
 induction d using Nat.strongRecOn generalizing k0 s0 with
 | ind d ih =>
  obtain ⟨x,hx,hr⟩:=hs k0 s0 a0 h0
  rw [yX,hx]
  cases x with
  | inl s'=>exact ih (n - (k0 + 1)) (by have:=hr.1; omega) (k0:=k0 + 1) (by have:=hr.1; omega) hr.2 rfl
  | inr o=>exact ⟨o,rfl,hr⟩
def Asc (s:List Int):Prop:=∀ k:Nat,k + 1 < s.length→idx s (k:Int) < idx s ((k + 1:Nat):Int)
instance (s:List Int):Decidable (Asc s):=by
 unfold Asc;exact decidable_of_iff (∀ k,k < s.length→k + 1 < s.length→idx s (k:Int) < idx s ((k + 1:Nat):Int)) ⟨fun h k hk=>h k (by omega) hk,fun h k _ hk=>h k hk⟩
theorem gU {s:List Int} {k:Nat} (h:k < s.length):idx s (k:Int)=s[k]:=dH rfl h
theorem ve {s:List Int}:Asc s↔s.Pairwise (· < ·):=by
 rw [List.pairwise_iff_getElem]
 constructor
 ·intro h i j hi hj hij
  induction j with
  | zero=>omega
  | succ j ih =>
   have h1:=h j hj
   rw [gU (by omega),gU hj] at h1
   rcases Nat.lt_or_ge i j with h2 | h2
   ·exact Int.lt_trans (ih (by omega) h2) h1
   ·have:i=j:=by omega
    subst this;exact h1
 ·intro h k hk
  rw [gU (by omega),gU hk]
  exact h k (k + 1) (by omega) hk (by omega)
def SOk (t:Int) (s:List Int):Bool:=(t == 1 && decide (s.length≤1)) || (t == 2 && decide (s.length≤64)) || (t == 3 && decide (Asc s) && decide (s.length≤64)) || (t == 4 && s.length == 1)
def chk (t:Int) (s:List Int):Int:=if 1≤t∧t≤4 then (if SOk t s then 0 else 80) else 1
theorem nS {k:Nat} (h:k < 2 ^ 62) (h1:1≤k):w64 ((k:Int) - 1)=((k - 1:Nat):Int):=by
 rw [oK (by omega) (by omega)]; omega
theorem zf {s:List Int} (hs:s.length < 2 ^ 62):fE () s=some (decide (Asc s) && decide (s.length≤64)):=by
 unfold fE;refine fD.1 ?_;refine dI (k0:=1) (s.length + 1) (fun k x=>x=(k:Int)∧1≤k∧∀ j:Nat,j + 1 < k→j + 1 < s.length→idx s (j:Int) < idx s ((j + 1:Nat):Int)) (by omega) ⟨rfl,Nat.le_refl _,fun j h=>by omega⟩ ?_
 rintro k x hk ⟨rfl,a0,hJ⟩;unfold nu;refine jh (fun h => ?_) (fun h => ?_)
 ·have h:(k:Int) < s.length:=of_decide_eq_true h;have e:=nS (k:=k) (by omega) a0;refine aj (by rw [e]; omega) (aj (by omega) (jh (fun h2 => ?_) (fun h2 => ?_)))
  ·have h2:idx s (k:Int)≤idx s (w64 ((k:Int) - 1)):=of_decide_eq_true h2
   rw [e] at h2
   refine aF (ah ?_)
   show false=_
   have hn:¬ Asc s:=by
    intro hA;have:=hA (k - 1) (by omega)
    rw [show k - 1 + 1=k by omega] at this
    omega
   simp [hn]
  ·have h2:¬ idx s (k:Int)≤idx s (w64 ((k:Int) - 1)):=of_decide_eq_false h2
   rw [e] at h2
   refine ⟨_,rfl,by omega,bn (by omega),by omega,fun j hj hl => ?_⟩
   rcases Nat.lt_or_ge (j + 1) k with h3 | h3
   ·exact hJ j h3 hl
   ·have:j=k - 1:=by omega
    subst this
    rw [show k - 1 + 1=k by omega]
    omega
 ·have h:¬ (k:Int) < s.length:=of_decide_eq_false h;refine aF (ah ?_)
  show decide ((s.length:Int)≤64)=_
  have hA:Asc s:=fun j hj=>hJ j (by omega) hj
  simp only [hA,decide_true,Bool.true_and]
  congr 1
  exact propext ⟨fun h=>by omega,fun h=>by omega⟩
theorem Ae {t:Int} {s:List Int} (h:1≤t∧t≤4):chk t s=if SOk t s then 0 else 80:=if_pos h
theorem four {t:Int} (h:1≤t∧t≤4):t=1∨t=2∨t=3∨t=4:=by omega
theorem Jt {s:List Int} {n:Nat}:decide ((s.length:Int)≤(n:Int))=decide (s.length≤n):=by
 congr 1
 exact propext ⟨fun h=>by omega,fun h=>by omega⟩
theorem AJ {t:Int} (h:¬ (1≤t∧t≤4)):jo t=some (-1):=by
 have e1:(t == 1)=false:=by rw [beq_eq_false_iff_ne]; omega
 have e2:(t == 2)=false:=by rw [beq_eq_false_iff_ne]; omega
 have e3:(t == 3)=false:=by rw [beq_eq_false_iff_ne]; omega
 have e4:(t == 4)=false:=by rw [beq_eq_false_iff_ne]; omega
 simp [jo,e1,e2,e3,e4]
theorem xY (t:Int) {s:List Int} (hs:s.length < 2 ^ 62):jr t s=some (chk t s):=by
 by_cases ht:1≤t∧t≤4
 ·rw [Ae ht]
  rcases four ht with rfl | rfl | rfl | rfl
  ·have:=Jt (s:=s) (n:=1)
   simp only [Int.cast_ofNat_Int] at this
   simp [jr,jo,jq,SOk]
   by_cases h:s.length≤1
   ·have h':(s.length:Int)≤1:=by omega
    simp [h,h']
   ·have h':¬ (s.length:Int)≤1:=by omega
    simp [h,h']
  ·simp [jr,jo,lY,SOk]
   by_cases h:s.length≤64
   ·have h':(s.length:Int)≤64:=by omega
    simp [h,h']
   ·have h':¬ (s.length:Int)≤64:=by omega
    simp [h,h']
  ·simp [jr,jo,zf hs,SOk]
   by_cases h:Asc s <;> by_cases h':s.length≤64 <;> simp [h,h']
  ·simp [jr,jo,jM,SOk]
   by_cases h:s.length=1
   ·have h':(s.length:Int)=1:=by omega
    simp [h,h']
   ·have h':((s.length:Int) == 1)=false:=by rw [beq_eq_false_iff_ne]; omega
    simp [h,h']
 ·rw [chk,if_neg ht]
  simp [jr,AJ ht]
theorem AL {s:List Int} (hs:s.length < 2 ^ 62):iter (jA s) (decide ((s.length:Int)≤64),1)=some (if decide (Asc s) && decide (s.length≤64) then 0 else 80):=by
 refine fD.1 ?_;refine dI (k0:=1) (s.length + 1) (fun k x=>x.2=(k:Int)∧1≤k∧(x.1=true↔s.length≤64∧∀ j:Nat,j + 1 < k→j + 1 < s.length→idx s (j:Int) < idx s ((j + 1:Nat):Int))) (by omega)
  ⟨rfl,Nat.le_refl _,⟨fun h=>⟨by have:=of_decide_eq_true h; omega,fun j hj=>by omega⟩,fun h=>decide_eq_true (by omega)⟩⟩ ?_
 rintro k ⟨b,x⟩ hk ⟨hx,a0,hJ⟩;have hx:x=(k:Int):=hx;subst hx;unfold jA;refine jh (fun h => ?_) (fun h => ?_)
 ·have h:(k:Int) < s.length:=of_decide_eq_true h;have e:=nS (k:=k) (by omega) a0;refine jh (fun hb => ?_) (fun hb => ?_)
  ·have hb':=hJ.1 hb;refine aj (by rw [e]; omega) (aj (by omega) ⟨_,rfl,by omega,bn (by omega),by omega,?_⟩)
   show decide _=true↔_
   rw [e,decide_eq_true_iff]
   constructor
   ·intro h2;refine ⟨hb'.1,fun j hj hl => ?_⟩;rcases Nat.lt_or_ge (j + 1) k with h3 | h3
    ·exact hb'.2 j h3 hl
    ·have:j=k - 1:=by omega
     subst this
     rw [show k - 1 + 1=k by omega]
     omega
   ·rintro ⟨_,h2⟩;have:=h2 (k - 1) (by omega) (by omega)
    rw [show k - 1 + 1=k by omega] at this
    omega
  ·refine ⟨_,rfl,by omega,bn (by omega),by omega,?_⟩
   show false=true↔_
   constructor
   ·intro h; cases h
   ·rintro ⟨h1,h2⟩;have:=hJ.2 ⟨h1,fun j hj=>h2 j (by omega)⟩;have hb:b=false:=hb
    rw [hb] at this
    cases this
 ·have h:¬ (k:Int) < s.length:=of_decide_eq_false h;refine aF ?_;have hb:b=(decide (Asc s) && decide (s.length≤64)):=by
   rw [Bool.eq_iff_iff,hJ]
   simp only [Bool.and_eq_true,decide_eq_true_eq]
   exact ⟨fun h=>⟨fun j hj=>h.2 j (by omega) hj,h.1⟩,fun h=>⟨h.2,fun j _ hj=>h.1 j hj⟩⟩
  unfold dE
  rw [← hb]
  cases b
  ·exact ⟨_,rfl,rfl⟩
  ·exact ⟨_,rfl,rfl⟩
theorem zg (t:Int) {s:List Int} (hs:s.length < 2 ^ 62):aH t s=some (chk t s):=by
 by_cases ht:1≤t∧t≤4
 ·rw [Ae ht]
  rcases four ht with rfl | rfl | rfl | rfl
  ·simp [aH,dF,dE,SOk]
   by_cases h:s.length≤1
   ·have h':(s.length:Int)≤1:=by omega
    simp [h,h']
   ·have h':¬ (s.length:Int)≤1:=by omega
    simp [h,h']
  ·simp [aH,dF,dE,SOk]
   by_cases h:s.length≤64
   ·have h':(s.length:Int)≤64:=by omega
    simp [h,h']
   ·have h':¬ (s.length:Int)≤64:=by omega
    simp [h,h']
  ·simp [aH,dF]
   have:=AL hs
   simp at this
   rw [this]
   simp [SOk]
  ·simp [aH,dF,dE,SOk]
   by_cases h:s.length=1
   ·have h':(s.length:Int)=1:=by omega
    simp [h,h']
   ·have h':((s.length:Int) == 1)=false:=by rw [beq_eq_false_iff_ne]; omega
    simp [h,h']
 ·rw [chk,if_neg ht]
  by_cases h1:t < 1
  ·simp [aH,dF,h1]
  ·have:t > 4:=by omega
   simp [aH,dF,h1,this]
def lb (s:List Int) (a:Int):Nat:=s.findIdx (fun x=>decide (a≤x))
def hit (s:List Int) (a:Int):Bool:=decide (lb s a < s.length) && (idx s (lb s a:Int) == a)
def ins (s:List Int) (a:Int):List Int:=s.take (lb s a)++((if hit s a then [] else [a])++s.drop (lb s a))
theorem EU (s:List Int) (a:Int):lb s a≤s.length:=List.findIdx_le_length
theorem Je {s:List Int} {a:Int} {k:Nat} (h:k < lb s a):idx s (k:Int) < a:=by
 have h1:k < s.length:=Nat.lt_of_lt_of_le h (EU s a)
 rw [gU h1]
 have:=List.not_of_lt_findIdx (p:=fun x=>decide (a≤x)) (xs:=s) h
 simpa using this
theorem Jf {s:List Int} {a:Int} (h:lb s a < s.length):a≤idx s (lb s a:Int):=by
 rw [gU h]
 have:=List.findIdx_getElem (p:=fun x=>decide (a≤x)) (xs:=s) (w:=h);exact of_decide_eq_true this
theorem Ip {s:List Int} {a:Int} {i:Nat} (hi:i≤s.length) (h1:∀ k:Nat,k < i→idx s (k:Int) < a) (h2:i < s.length→a≤idx s (i:Int)):lb s a=i:=by
 rcases Nat.lt_trichotomy (lb s a) i with h | h | h
 ·have:=Jf (s:=s) (a:=a) (by omega);have:=h1 _ h
  omega
 ·exact h
 ·have h3:=Je h;have:=h2 (by have:=EU s a; omega)
  omega
theorem GV {i j:Nat} (hi:i < 2 ^ 62) (hj:j < 2 ^ 62):w64 (vT .u64 (IntKind.wrap .u64 (w64 ((i:Int) + (j:Int)))) (1:Int))=(((i + j) / 2:Nat):Int):=by
 have e1:w64 ((i:Int) + (j:Int))=((i + j:Nat):Int):=by rw [oK (by omega) (by omega)]; omega
 rw [e1,wrap_u64 (by omega),BZ (n:=1) (i:=(1:Int)) rfl (by omega),oK (by omega) (by omega)]
 simp [Nat.shiftRight_eq_div_pow]
theorem Ee (a b:Int):lI a b=some (decide (a < b)):=by simp [lI,kI]
theorem Bv {s:List Int} (a:Int) (hA:Asc s) (hs:s.length < 2 ^ 62):bz s a=some ((lb s a:Int),hit s a):=by
 unfold bz;refine fD.1 ?_;have hP:=List.pairwise_iff_getElem.1 (ve.1 hA);have hmono:∀ p q:Nat,p≤q→q < s.length→idx s (p:Int)≤idx s (q:Int):=by
  intro p q hpq hq;rcases Nat.lt_or_ge p q with h | h
  ·rw [gU (by omega),gU hq]
   exact Int.le_of_lt (hP p q (by omega) hq h)
  ·have:p=q:=by omega
   subst this;exact Int.le_refl _
 refine zw (fun x:Int×Int=>∃ i j:Nat,x=((i:Int),(j:Int))∧i≤j∧j≤s.length∧(∀ k:Nat,k < i→idx s (k:Int) < a)∧(j < s.length→a≤idx s (j:Int))) (fun x=>x.2.toNat - x.1.toNat)
  ⟨0,s.length,rfl,by omega,by omega,fun k h=>by omega,fun h=>by omega⟩ ?_
 rintro _ ⟨i,j,rfl,hij,hj,h1,h2⟩;unfold iC;refine jh (fun h => ?_) (fun h => ?_)
 ·have h:(i:Int) < j:=of_decide_eq_true h;have e:=GV (i:=i) (j:=j) (by omega) (by omega)
  rw [e]
  refine aj (by decide) (aj (by omega) ?_)
  rw [Ee]
  show Tri (bif decide _ then _ else _) _
  have hm:(i + j) / 2 < j:=by omega
  have a0:i≤(i + j) / 2:=by omega
  generalize (i + j) / 2=m at hm a0;refine jh (fun h3 => ?_) (fun h3 => ?_)
  ·have h3:idx s (m:Int) < a:=of_decide_eq_true h3;refine ⟨_,rfl,⟨m + 1,j,by rw [bn (by omega)],by omega,hj,fun k hk => ?_,h2⟩,?_⟩
   ·exact Int.lt_of_le_of_lt (hmono k m (by omega) (by omega)) h3
   ·rw [bn (by omega)]; simp only [Int.toNat_natCast]; omega
  ·have h3:¬ idx s (m:Int) < a:=of_decide_eq_false h3;refine ⟨_,rfl,⟨i,m,rfl,a0,by omega,h1,fun _=>by omega⟩,?_⟩
   simp only [Int.toNat_natCast]; omega
 ·have h:¬ (i:Int) < j:=of_decide_eq_false h;have hji:j=i:=by omega
  subst hji;have hl:lb s a=j:=Ip hj h1 h2;refine jh (fun h3 => ?_) (fun h3 => ?_)
  ·have h3:(j:Int) < s.length:=of_decide_eq_true h3;have hlt:j < s.length:=by omega
   refine aj (by omega) (jh (fun h4 => ?_) (fun h4 => ?_))
   ·refine aF (ah ?_)
    simp [Rnd,hl,hit,hlt,h4]
   ·simp only [iP,Option.bind_some,bne_self_eq_false,cond_false]
    refine aF (ah ?_)
    simp [Rnd,hl,hit,hlt,h4]
  ·have h3:¬ (j:Int) < s.length:=of_decide_eq_false h3;have hlt:¬ j < s.length:=by omega
   refine aF (ah ?_)
   simp [Rnd,hl,hit,hlt]
theorem GX {s:List Int} {a:Int} (hA:Asc s):hit s a=true↔a ∈ s:=by
 unfold hit
 simp only [Bool.and_eq_true,decide_eq_true_eq,beq_iff_eq]
 constructor
 ·rintro ⟨h1,h2⟩
  rw [gU h1] at h2
  exact h2 ▸ List.getElem_mem h1
 ·intro h;obtain ⟨k,hk,e⟩:=List.getElem_of_mem h;have hP:=List.pairwise_iff_getElem.1 (ve.1 hA);have:lb s a=k:=by
   refine Ip (by omega) (fun j hj => ?_) (fun _ => ?_)
   ·rw [gU (by omega),← e]; exact hP j k (by omega) hk hj
   ·rw [gU hk,e]; exact Int.le_refl _
  rw [this]
  exact ⟨hk,by rw [gU hk,e]⟩
def next (t:Int) (s:List Int) (a:Int):List Int:=if t=1 then [a] else if t=2 then s++[a] else if t=3 then ins s a else [w64 (idx s 0 + a)]
def app (t:Int) (s:List Int) (a:Int):List Int×Int :=
 if chk t s≠0 then ([],chk t s) else if (next t s a).length > 64 then ([],2) else (next t s a,0)
theorem EW {t:Int} {s:List Int} (h:chk t s=0):1≤t∧t≤4∧SOk t s=true:=by
 unfold chk at h
 split at h
 ·rename_i h1
  split at h
  ·exact ⟨h1.1,h1.2,by assumption⟩
  ·cases h
 ·cases h
theorem EX {t:Int} {s:List Int} (h:SOk t s=true):s.length≤64:=by
 simp only [SOk,Bool.or_eq_true,Bool.and_eq_true,decide_eq_true_eq,beq_iff_eq] at h
 omega
theorem IE {s:List Int} (h:SOk 3 s=true):Asc s:=by
 simp [SOk] at h
 exact h.1
theorem ok_one {s:List Int} (h:SOk 4 s=true):s.length=1:=by
 simp [SOk] at h
 exact h
def start (t:Int):List Int×Int:=if 1≤t∧t≤4 then (if t=4 then [0] else [],0) else ([],1)
def step (t:Int) (x:List Int×Int) (a:Int):List Int×Int:=if x.2=0 then app t x.1 a else x
theorem Af {a b:List Int} (ha:a.length < 2 ^ 62):bE a b=some (decide (a=b)):=by
 unfold bE
 by_cases hl:a.length=b.length
 ·have:((a.length:Int) != (b.length:Int))=false:=by simp; omega
  rw [this,cond_false]
  refine fD.1 ?_;refine zx a.length (fun k=>∀ j:Nat,j < k→idx a (j:Int)=idx b (j:Int)) (fun j h=>by omega) (fun k hk hJ => ?_);unfold iw;refine jh (fun h => ?_) (fun h => ?_)
  ·have h:(k:Int) < a.length:=of_decide_eq_true h;refine aj (by omega) (aj (by omega) (jh (fun h2 => ?_) (fun h2 => ?_)))
   ·have h2:idx a (k:Int)≠idx b (k:Int):=by simpa using h2
    refine aF (ah ?_)
    show false=_
    have:a≠b:=fun e=>h2 (by rw [e])
    simp [this]
   ·have h2:idx a (k:Int)=idx b (k:Int):=by simpa using h2
    refine ⟨_,rfl,bn (by omega),by omega,fun j hj => ?_⟩
    rcases Nat.lt_or_ge j k with h3 | h3
    ·exact hJ j h3
    ·have:j=k:=by omega
     subst this;exact h2
  ·have h:¬ (k:Int) < a.length:=of_decide_eq_false h;refine aF (ah ?_)
   show true=_
   have:a=b:=BV hl (fun j hj=>hJ j (by omega))
   simp [this]
 ·have:((a.length:Int) != (b.length:Int))=true:=by simp; omega
  rw [this,cond_true]
  have:a≠b:=fun e=>hl (by rw [e])
  simp [this]
end Go.Proofs.YtnlkggppokcmfaaGreatT
namespace Go.Proofs.YtnlkggppokcmfaaGreatT
open Go Go.Proofs Go.Proofs.YtnlkggppokcmfaaGreatE
set_option linter.unusedVariables false
set_option linter.unusedSimpArgs false
theorem AO {s:List Int} (a:Int) (hs:s.length < 2 ^ 62):eF s a=some (decide (a ∈ s)):=by
 unfold eF;refine fD.1 ?_;refine zx s.length (fun k=>∀ j:Nat,j < k→idx s (j:Int)≠a) (fun j h=>by omega) (fun k hk hJ => ?_);unfold nM;refine jh (fun h => ?_) (fun h => ?_)
 ·have h:(k:Int) < s.length:=of_decide_eq_true h;have hks:k < s.length:=by omega
  refine aj (by omega) (jh (fun h2 => ?_) (fun h2 => ?_))
  ·have h2:idx s (k:Int)=a:=by simpa using h2
   refine aF (ah ?_)
   show true=_
   have:a ∈ s:=by rw [← h2,gU hks]; exact List.getElem_mem _
   simp [this]
  ·have h2:idx s (k:Int)≠a:=by simpa using h2
   refine ⟨_,rfl,bn (by omega),by omega,fun j hj => ?_⟩
   rcases Nat.lt_or_ge j k with h3 | h3
   ·exact hJ j h3
   ·have:j=k:=by omega
    subst this;exact h2
 ·have h:¬ (k:Int) < s.length:=of_decide_eq_false h;refine aF (ah ?_)
  show false=_
  have:a ∉ s:=by
   intro hm;obtain ⟨j,hj,e⟩:=List.getElem_of_mem hm;exact hJ j (by omega) (by rw [gU hj,e])
  simp [this]
theorem zh {a b:List Int} (ha:a.length < 2 ^ 62):dm a b=some (decide (a=b)):=by
 rw [← Af ha]
 rfl
def Fit (s args:List Int):Prop:=∀ k:Nat,k < args.length→idx args (k:Int) ∈ s∧idx args (k:Int) ∉ args.take k
instance (s args:List Int):Decidable (Fit s args):=by unfold Fit; infer_instance
def before (t:Int) (s args:List Int):List Int×Bool :=
 if chk t s≠0∨args=[] then ([],false)
 else if t=1 then ([],decide (s.length=1∧idx s 0=idx args ((args.length - 1:Nat):Int)))
 else if t=2 then (if args.length≤s.length∧s.drop (s.length - args.length)=args then (s.take (s.length - args.length),true) else ([],false))
 else if t=3 then (if Fit s args then (s.filter (fun x=>decide (x ∉ args)),true) else ([],false))
 else ([args.foldl (fun v a=>w64 (v - a)) (idx s 0)],true)
theorem xe {s args:List Int} (hs:args.length < 2 ^ 62) (v:Int):iter (gQ args) (v,0)=some ([args.foldl (fun v a=>w64 (v - a)) v],true):=by
 refine fD.1 ?_;refine xy args.length (fun k x=>x=(args.take k).foldl (fun v a=>w64 (v - a)) v) rfl (fun k x hk hJ => ?_);subst hJ;unfold gQ;refine jh (fun h => ?_) (fun h => ?_)
 ·have h:(k:Int) < args.length:=of_decide_eq_true h;have hks:k < args.length:=by omega
  refine aj (by omega) ⟨_,rfl,bn (by omega),hks,?_⟩
  show _=List.foldl _ _ _
  rw [List.take_add_one,List.getElem?_eq_getElem hks,List.foldl_append,gU hks]
  rfl
 ·have h:¬ (k:Int) < args.length:=of_decide_eq_false h;refine aF (ah ?_)
  show ([_],true)=_
  rw [List.take_of_length_le (by omega)]
theorem Ef {s args:List Int} (hs:s.length < 2 ^ 43) (hm:args.length≤s.length):iter (iZ s args) 0=some (if s.drop (s.length - args.length)=args then (s.take (s.length - args.length),true) else ([],false)):=by
 have e1:w64 ((s.length:Int) - (args.length:Int))=((s.length - args.length:Nat):Int):=by rw [oK (by omega) (by omega)]; omega
 refine fD.1 ?_;refine zx args.length (fun k=>∀ j:Nat,j < k→idx s ((s.length - args.length + j:Nat):Int)=idx args (j:Int)) (fun j h=>by omega) (fun k hk hJ => ?_);unfold iZ;refine jh (fun h => ?_) (fun h => ?_)
 ·have h:(k:Int) < args.length:=of_decide_eq_true h;have hks:k < args.length:=by omega
  have e2:w64 (w64 ((s.length:Int) - (args.length:Int)) + (k:Int))=((s.length - args.length + k:Nat):Int):=by rw [e1,oK (by omega) (by omega)]; omega
  rw [e2]
  refine aj (by omega) (aj (by omega) (jh (fun h2 => ?_) (fun h2 => ?_)))
  ·have h2:idx s ((s.length - args.length + k:Nat):Int)≠idx args (k:Int):=by simpa using h2
   refine aF (ah ?_)
   show ([],false)=_
   have:¬ s.drop (s.length - args.length)=args:=by
    intro e
    apply h2
    have h3:(s.drop (s.length - args.length))[k]? = args[k]? := by rw [e]
    rw [List.getElem?_drop,List.getElem?_eq_getElem (by omega),List.getElem?_eq_getElem hks] at h3
    rw [gU (by omega),gU hks]
    exact Option.some.inj h3
   rw [if_neg this]
  ·have h2:idx s ((s.length - args.length + k:Nat):Int)=idx args (k:Int):=by simpa using h2
   refine ⟨_,rfl,bn (by omega),by omega,fun j hj => ?_⟩
   rcases Nat.lt_or_ge j k with h3 | h3
   ·exact hJ j h3
   ·have:j=k:=by omega
    subst this;exact h2
 ·have h:¬ (k:Int) < args.length:=of_decide_eq_false h;have hd:s.drop (s.length - args.length)=args:=by
   refine List.ext_getElem (by simp; omega) (fun j h1 h2 => ?_);have:=hJ j (by omega)
   rw [gU (by omega),gU h2] at this
   rw [List.getElem_drop]
   exact this
  rw [e1]
  have hsl:di s (0:Int) ((s.length - args.length:Nat):Int)=s.take (s.length - args.length):=by simp [di]
  rw [hsl]
  refine aj (by omega) (aj ⟨by simp; omega,by simp; omega⟩ (aF (ah ?_)))
  show ([]++s.take _,true)=_
  rw [if_pos hd,List.nil_append]
theorem xg {s args:List Int} (hs:s.length < 2 ^ 43) (ha:args.length < 2 ^ 62):dw () s args=some (if args.length≤s.length∧s.drop (s.length - args.length)=args then (s.take (s.length - args.length),true) else ([],false)):=by
 unfold dw
 by_cases hm:args.length≤s.length
 ·have e1:w64 ((s.length:Int) - (args.length:Int))=((s.length - args.length:Nat):Int):=by rw [oK (by omega) (by omega)]; omega
  have hlt:decide (w64 ((s.length:Int) - (args.length:Int)) < 0)=false:=decide_eq_false (by rw [e1]; omega)
  rw [hlt,cond_false,jZ _ (by rw [e1]; omega),e1]
  have hsl:di s ((s.length - args.length:Nat):Int) (s.length:Int)=s.drop (s.length - args.length):=by simp [di]
  have a0:di s (0:Int) ((s.length - args.length:Nat):Int)=s.take (s.length - args.length):=by simp [di]
  rw [hsl,zh (by simp; omega)]
  simp only [Option.bind_some]
  unfold gF
  rw [e1,a0,jZ _ (by omega)]
  have hc:ed (s.take (s.length - args.length))=some (s.take (s.length - args.length)):=jZ _ (by simp; omega)
  rw [hc]
  by_cases he:s.drop (s.length - args.length)=args
  ·simp [he,hm]
  ·simp [he]
 ·have hlt:decide (w64 ((s.length:Int) - (args.length:Int)) < 0)=true:=decide_eq_true (by rw [oK (by omega) (by omega)]; omega)
  rw [hlt,cond_true,gF,cond_true,if_neg (fun h=>hm h.1)]
theorem CF {s:List Int} (p:Int→Bool) (h:Asc s):Asc (s.filter p):=ve.2 ((ve.1 h).filter p)
theorem Ag {args:List Int} {k:Nat} (h:k < args.length):args.take (k + 1)=args.take k++[idx args (k:Int)]:=by
 rw [List.take_add_one,List.getElem?_eq_getElem h,gU h]; rfl
theorem Bw {s args:List Int} {k:Nat} (h:k < args.length):s.filter (fun x=>decide (x ∉ args.take (k + 1)))=(s.filter (fun x=>decide (x ∉ args.take k))).filter (fun x=>decide (x≠idx args (k:Int))):=by
 rw [List.filter_filter]
 apply List.filter_congr
 intro x _
 rw [Ag h]
 simp only [List.mem_append,List.mem_singleton,not_or]
 rw [Bool.eq_iff_iff]
 simp only [decide_eq_true_eq,Bool.and_eq_true]
 exact ⟨fun h=>⟨h.2,h.1⟩,fun h=>⟨h.2,h.1⟩⟩
theorem CG {l:List Int} {a:Int} (hA:Asc l) (h:hit l a=true):l.take (lb l a)++l.drop (lb l a + 1)=l.filter (fun x=>decide (x≠a)):=by
 have hP:=List.pairwise_iff_getElem.1 (ve.1 hA)
 simp only [hit,Bool.and_eq_true,decide_eq_true_eq,beq_iff_eq] at h
 obtain ⟨h1,h2⟩:=h
 rw [gU h1] at h2
 generalize lb l a=i at h1 h2
 conv=>rhs; rw [← List.take_append_drop i l,List.drop_eq_getElem_cons h1,List.filter_append,List.filter_cons,h2]
 rw [if_neg (by simp)]
 congr 1
 ·symm
  rw [List.filter_eq_self]
  intro x hx;obtain ⟨j,hj,rfl⟩:=List.getElem_of_mem hx;have hj':j < i:=by simp at hj; omega
  have:=hP j i (by omega) h1 hj'
  rw [List.getElem_take,decide_eq_true_eq]
  omega
 ·symm
  rw [List.filter_eq_self]
  intro x hx;obtain ⟨j,hj,rfl⟩:=List.getElem_of_mem hx;have hj':i + 1 + j < l.length:=by simp at hj; omega
  have:=hP i (i + 1 + j) h1 hj' (by omega)
  rw [List.getElem_drop,decide_eq_true_eq]
  omega
theorem xZ {s args:List Int} (hA:Asc s) (hs:s.length < 2 ^ 43) (ha:args.length < 2 ^ 62):dO () s args=some (if Fit s args then (s.filter (fun x=>decide (x ∉ args)),true) else ([],false)):=by
 unfold dO;have hc:ed s=some s:=jZ _ (by omega)
 rw [hc]
 refine fD.1 ?_
 show Tri (iter (jv args) (s,0)) _
 refine xy args.length (fun k l=>l=s.filter (fun x=>decide (x ∉ args.take k))∧∀ j:Nat,j < k→idx args (j:Int) ∈ s∧idx args (j:Int) ∉ args.take j) ⟨by simp; exact (List.filter_eq_self.2 (fun _ _=>rfl)).symm,fun j h=>by omega⟩ (fun k l hk hJ => ?_)
 obtain ⟨hl,hJ⟩:=hJ;have hAl:Asc l:=by rw [hl]; exact CF _ hA
 have hll:l.length≤s.length:=by rw [hl]; exact List.length_filter_le _ _
 unfold jv;refine jh (fun h => ?_) (fun h => ?_)
 ·have h:(k:Int) < args.length:=of_decide_eq_true h;have hks:k < args.length:=by omega
  refine aj (by omega) ?_
  rw [Bv _ hAl (by omega)]
  have hm:=GX (s:=l) (a:=idx args (k:Int)) hAl
  show Tri (bif !hit l (idx args (k:Int)) then _ else _) _
  cases hh:hit l (idx args (k:Int))
  ·simp only [Bool.not_false,cond_true]
   refine aF (ah ?_)
   show ([],false)=_
   have hn:¬ Fit s args:=by
    intro hF;have h1:=hF k hks;have:idx args (k:Int) ∈ l:=by rw [hl,List.mem_filter]; exact ⟨h1.1,by simpa using h1.2⟩
    rw [hm.2 this] at hh
    cases hh
   rw [if_neg hn]
  ·simp only [Bool.not_true,cond_false]
   have hi:=EU l (idx args (k:Int));have hlt:lb l (idx args (k:Int)) < l.length:=by
    simp only [hit,Bool.and_eq_true,decide_eq_true_eq] at hh
    exact hh.1
   have hd:iE l (lb l (idx args (k:Int)):Int) (w64 ((lb l (idx args (k:Int)):Int) + 1))=some (l.filter (fun x=>decide (x≠idx args (k:Int)))):=by
    unfold iE
    rw [bn (by omega),jZ _ ⟨by omega,by omega,by omega⟩,Int.toNat_natCast,Int.toNat_natCast,CG hAl hh]
   rw [hd]
   refine ⟨_,rfl,bn (by omega),hks,?_,fun j hj => ?_⟩
   ·rw [Bw hks,← hl]
   ·rcases Nat.lt_or_ge j k with h3 | h3
    ·exact hJ j h3
    ·have:j=k:=by omega
     subst this;have hmem:=hm.1 hh
     rw [hl,List.mem_filter] at hmem
     exact ⟨hmem.1,by simpa using hmem.2⟩
 ·have h:¬ (k:Int) < args.length:=of_decide_eq_false h;have hF:Fit s args:=fun j hj=>hJ j (by omega);refine aF (ah ?_)
  show (l,true)=_
  rw [if_pos hF,hl,List.take_of_length_le (by omega)]
theorem yF {s args:List Int} (hs:s.length < 2 ^ 43) (ha:args.length < 2 ^ 62):iter (ja s args) ([],0)=some (.inr (s.filter (fun x=>decide (x ∉ args)),true)):=by
 refine fD.1 ?_;refine xy s.length (fun k l=>l=(s.take k).filter (fun x=>decide (x ∉ args))) (by simp) (fun k l hk hJ => ?_);have hll:l.length≤k:=by rw [hJ]; exact Nat.le_trans (List.length_filter_le _ _) (by simp; omega)
 unfold ja;refine jh (fun h => ?_) (fun h => ?_)
 ·have h:(k:Int) < s.length:=of_decide_eq_true h;have hks:k < s.length:=by omega
  refine aj (by omega) ?_
  rw [AO _ ha]
  show Tri (bif !decide _ then _ else _) _
  have hn:(s.take (k + 1)).filter (fun x=>decide (x ∉ args))=l++(if idx s (k:Int) ∈ args then [] else [idx s (k:Int)]):=by
   rw [Ag hks,List.filter_append,← hJ]
   congr 1
   by_cases hm:idx s (k:Int) ∈ args <;> simp [hm]
  by_cases hm:idx s (k:Int) ∈ args
  ·simp only [hm,decide_true,Bool.not_true,cond_false]
   refine ⟨_,rfl,bn (by omega),hks,?_⟩
   show l=_
   rw [hn,if_pos hm,List.append_nil]
  ·simp only [hm,decide_false,Bool.not_false,cond_true]
   refine aj ⟨by omega,by omega⟩ ⟨_,rfl,bn (by omega),hks,?_⟩
   show l++[idx s (k:Int)]=_
   rw [hn,if_neg hm]
 ·have h:¬ (k:Int) < s.length:=of_decide_eq_false h;refine aF (aF (ah ?_))
  show Sum.inr (l,true)=_
  rw [hJ,List.take_of_length_le (by omega)]
theorem AP {s args:List Int} (hs:s.length < 2 ^ 43) (ha:args.length < 2 ^ 62):iter (jb s args) 0=some (if Fit s args then (s.filter (fun x=>decide (x ∉ args)),true) else ([],false)):=by
 refine fD.1 ?_;refine zx args.length (fun k=>∀ j:Nat,j < k→idx args (j:Int) ∈ s∧idx args (j:Int) ∉ args.take j) (fun j h=>by omega) (fun k hk hJ => ?_);unfold jb;refine jh (fun h => ?_) (fun h => ?_)
 ·have h:(k:Int) < args.length:=of_decide_eq_true h;have hks:k < args.length:=by omega
  refine aj (by omega) ?_
  rw [AO _ (by omega)]
  have hfail:¬ (idx args (k:Int) ∈ s∧idx args (k:Int) ∉ args.take k)→Tri (gI (k:Int) true) (Up args.length k (fun k=>∀ j:Nat,j < k→idx args (j:Int) ∈ s∧idx args (j:Int) ∉ args.take j) (fun r=>r=(if Fit s args then (s.filter (fun x=>decide (x ∉ args)),true) else ([],false)))):=by
   intro hn;refine aF (ah ?_)
   show ([],false)=_
   rw [if_neg (fun hF=>hn (hF k hks))]
  have hsl:di args (0:Int) (k:Int)=args.take k:=by simp [di]
  show Tri (bif !decide _ then _ else _) _
  by_cases hm:idx args (k:Int) ∈ s
  ·simp only [hm,decide_true,Bool.not_true,cond_false]
   refine aj (by omega) ?_
   rw [hsl,AO _ (by simp; omega)]
   show Tri (gI (k:Int) (decide _)) _
   by_cases a0:idx args (k:Int) ∈ args.take k
   ·simp only [a0,decide_true]
    exact hfail (fun h=>h.2 a0)
   ·simp only [a0,decide_false]
    refine ⟨_,rfl,bn (by omega),hks,fun j hj => ?_⟩;rcases Nat.lt_or_ge j k with h3 | h3
    ·exact hJ j h3
    ·have:j=k:=by omega
     subst this;exact ⟨hm,a0⟩
  ·simp only [hm,decide_false,Bool.not_false,cond_true]
   exact hfail (fun h=>hm h.1)
 ·have h:¬ (k:Int) < args.length:=of_decide_eq_false h;have hF:Fit s args:=fun j hj=>hJ j (by omega)
  rw [yF hs ha]
  rw [if_pos hF]
  exact ⟨_,rfl,rfl⟩
theorem Bz {s args:List Int} (ha:args.length < 2 ^ 62) (h0:args≠[]):fK () s args=some ([],decide (s.length=1∧idx s 0=idx args ((args.length - 1:Nat):Int))):=by
 unfold fK;have hp:0 < args.length:=List.length_pos_iff.2 h0;have e1:w64 ((args.length:Int) - 1)=((args.length - 1:Nat):Int):=nS ha hp
 rw [e1]
 by_cases h1:s.length=1
 ·have h2:((s.length:Int) == 1)=true:=by rw [beq_iff_eq]; omega
  rw [h2,cond_true,jZ _ (by omega),jZ _ (by omega)]
  simp [h1]
  rw [Bool.eq_iff_iff]; simp
 ·have h2:((s.length:Int) == 1)=false:=by rw [beq_eq_false_iff_ne]; omega
  rw [h2,cond_false]
  simp [h1]
theorem xh (t:Int) {s args:List Int} (hs:s.length < 2 ^ 62) (ha:args.length < 2 ^ 62):fF t s args=some (before t s args):=by
 unfold fF before
 rw [xY t hs]
 by_cases hc:chk t s=0
 ·obtain ⟨h1,h2,h3⟩:=EW hc;have hl:=EX h3
  simp only [hc,Option.bind_some,bne_self_eq_false,cond_false,ne_eq,not_true,false_or]
  by_cases h0:args=[]
  ·subst h0
   simp [jl]
  ·have hp:((args.length:Int) == 0)=false:=by
    have:0 < args.length:=List.length_pos_iff.2 h0
    rw [beq_eq_false_iff_ne]; omega
   rw [hp,if_neg h0]
   unfold jl;rcases four ⟨h1,h2⟩ with rfl | rfl | rfl | rfl
   ·simp [jo,Bz ha h0]
   ·simp [jo,xg (s:=s) (by omega) ha]
   ·simp [jo,xZ (IE h3) (by omega) ha]
   ·have:=ok_one h3
    simp [jo,dz]
    rw [jZ _ (by omega),xe (s:=s) ha]
    simp
 ·have:(chk t s != 0)=true:=by simpa using hc
  simp [hc,this,jl]
theorem yG (t:Int) {s args:List Int} (hs:s.length < 2 ^ 62) (ha:args.length < 2 ^ 62):aC t s args=some (before t s args):=by
 unfold aC before
 rw [zg t hs]
 by_cases hc:chk t s=0
 ·obtain ⟨h1,h2,h3⟩:=EW hc;have hl:=EX h3
  simp only [hc,Option.bind_some,bne_self_eq_false,cond_false,ne_eq,not_true,false_or]
  by_cases h0:args=[]
  ·subst h0
   simp [fq]
  ·have hp:((args.length:Int) == 0)=false:=by
    have:0 < args.length:=List.length_pos_iff.2 h0
    rw [beq_eq_false_iff_ne]; omega
   rw [hp,if_neg h0]
   unfold fq;rcases four ⟨h1,h2⟩ with rfl | rfl | rfl | rfl
   ·simp only [cond_false,show ((1:Int) == 1)=true from rfl,cond_true,if_true]
    exact Bz ha h0
   ·by_cases hm:args.length≤s.length
    ·have:¬ (args.length:Int) > s.length:=by omega
     simp [this,Ef (s:=s) (by omega) hm,hm]
    ·have:(args.length:Int) > s.length:=by omega
     simp [this,hm]
   ·simp [AP (s:=s) (by omega) ha]
   ·have:=ok_one h3
    simp
    rw [jZ _ (by omega)]
    exact xe (s:=s) ha _
 ·have:(chk t s != 0)=true:=by simpa using hc
  simp [hc,this,fq]
theorem AQ (t:Int) (s args:List Int):(before t s args).1.length≤s.length + 1:=by
 unfold before
 split
 ·simp
 ·split
  ·simp
  ·split
   ·split <;> simp <;> omega
   ·split
    ·split
     ·exact Nat.le_trans (List.length_filter_le _ _) (by omega)
     ·simp
    ·simp
end Go.Proofs.YtnlkggppokcmfaaGreatT
namespace Go.Proofs.YtnlkggppokcmfaaGreatT
open Go Go.Proofs Go.Proofs.YtnlkggppokcmfaaGreatE
set_option linter.unusedVariables false
set_option linter.unusedSimpArgs false
def pI (c:Call) (k:Int):Prop :=
 1≤c.Kind∧c.Kind≤8∧1≤c.Key.size∧c.Key.size≤32 ∧
  (c.Kind≤4→c.Got=false∧c.Vals.length=0∧(c.Kind=4 → -1048576≤c.Arg∧c.Arg≤1048576)) ∧
  (5≤c.Kind→c.Arg=0∧(c.Got=true↔k=1)∧(c.Got=false→c.Vals.length=0) ∧
   (c.Got=true→(c.Kind=5→c.Vals.length≤1)∧(c.Kind=8→c.Vals.length=1)∧(c.Kind=7→Asc c.Vals)∧c.Vals.length≤64))
theorem Ah {k:ByteArray}:k=(⟨#[]⟩:ByteArray)↔k.size=0:=by
 constructor
 ·rintro rfl; rfl
 ·intro h;obtain ⟨a⟩:=k;have:a = #[]:=Array.eq_empty_of_size_eq_zero h
  rw [this]
theorem EY {c:Call} (hs:c.Vals.length < 2 ^ 61):Tri (iter (oO c) 1) (fun r=>r=true↔(c.Kind=7→Asc c.Vals)):=by
 refine dI (k0:=1) (c.Vals.length + 1) (fun k x=>x=(k:Int)∧1≤k∧∀ j:Nat,j + 1 < k→j + 1 < c.Vals.length→idx c.Vals (j:Int) < idx c.Vals ((j + 1:Nat):Int)) (by omega) ⟨rfl,Nat.le_refl _,fun j h=>by omega⟩ ?_
 rintro k x hk ⟨rfl,a0,hJ⟩;unfold oO oN
 dsimp only
 have e:=nS (k:=k) (by omega) a0;have e2:=bn (k:=k) (by omega)
 rw [e,e2]
 repeat' (first | contradiction | with_reducible refine ay (fun hq => ?_) (fun hq => ?_) | with_reducible refine aj (by first | omega | grind [bG]) ?_ | with_reducible refine aF ?_ | with_reducible refine bJ ?_ | with_reducible refine bS ?_ | with_reducible refine bT ?_ | with_reducible refine bU ?_ | with_reducible refine ah ?_)
 ·show false=true↔_
  have hl:¬ Asc c.Vals:=by
   intro hA;have:=hA (k - 1) (by omega)
   rw [show k - 1 + 1=k by omega] at this
   omega
  grind
 ·refine ⟨by omega,rfl,by omega,fun j hj hl => ?_⟩
  rcases Nat.lt_or_ge (j + 1) k with h3 | h3
  ·exact hJ j h3 hl
  ·have:j=k - 1:=by omega
   subst this
   rw [show k - 1 + 1=k by omega]
   omega
 ·show true=true↔_
  have hl:Asc c.Vals:=fun j hj=>hJ j (by omega) hj
  grind
 ·show true=true↔_
  grind
theorem yH (c:Call) (k:Int) (hs:c.Vals.length < 2 ^ 61):Tri (bK c k) (fun r=>r=true↔pI c k):=by
 unfold bK kK oQ oP sM pI
 simp only [cond_true,cond_false]
 have he:=Ah (k:=c.Key)
 repeat' (first | contradiction | with_reducible refine ay (fun hq => ?_) (fun hq => ?_) | with_reducible refine aj (by first | omega | grind [bG]) ?_ | with_reducible refine aF ?_ | with_reducible refine bJ ?_ | with_reducible refine bS ?_ | with_reducible refine bT ?_ | with_reducible refine bU ?_ | with_reducible refine ah ?_ | refine dQ (EY hs) (fun r hr => ?_))
 all_goals grind
theorem GY {c:Call} (hs:c.Vals.length < 2 ^ 61) (hc:c.Kind=7):Tri (iter (jQ c) 1) (fun r=>r=true↔(Asc c.Vals∧c.Vals.length≤64)):=by
 refine dI (k0:=1) (c.Vals.length + 1) (fun k x=>x=(k:Int)∧1≤k∧∀ j:Nat,j + 1 < k→j + 1 < c.Vals.length→idx c.Vals (j:Int) < idx c.Vals ((j + 1:Nat):Int)) (by omega) ⟨rfl,Nat.le_refl _,fun j h=>by omega⟩ ?_
 rintro k x hk ⟨rfl,a0,hJ⟩;unfold jQ iF
 dsimp only
 have e:=nS (k:=k) (by omega) a0;have e2:=bn (k:=k) (by omega)
 rw [e,e2]
 repeat' (first | contradiction | with_reducible refine ay (fun hq => ?_) (fun hq => ?_) | with_reducible refine aj (by first | omega | grind [bG]) ?_ | with_reducible refine aF ?_ | with_reducible refine bJ ?_ | with_reducible refine bS ?_ | with_reducible refine bT ?_ | with_reducible refine bU ?_ | with_reducible refine ah ?_)
 ·show false=true↔_
  have hl:¬ Asc c.Vals:=by
   intro hA;have:=hA (k - 1) (by omega)
   rw [show k - 1 + 1=k by omega] at this
   omega
  grind
 ·refine ⟨by omega,rfl,by omega,fun j hj hl => ?_⟩
  rcases Nat.lt_or_ge j (k - 1) with h3 | h3
  ·exact hJ j (by omega) hl
  ·have:j=k - 1:=by omega
   subst this
   rw [show k - 1 + 1=k by omega]
   omega
 ·show decide _=true↔_
  have hl:Asc c.Vals:=fun j hj=>hJ j (by omega) hj
  grind
theorem zT (c:Call) (k:Int) (hs:c.Vals.length < 2 ^ 61):Tri (aP c k) (fun r=>r=true↔pI c k):=by
 unfold aP fV fU iF pI
 simp only [cond_true,cond_false]
 have ha:c.Vals.length=0→Asc c.Vals:=fun h j hj=>by omega
 repeat' (first | contradiction | with_reducible refine ay (fun hq => ?_) (fun hq => ?_) | with_reducible refine aj (by first | omega | grind [bG]) ?_ | with_reducible refine aF ?_ | with_reducible refine bJ ?_ | with_reducible refine bS ?_ | with_reducible refine bT ?_ | with_reducible refine bU ?_ | with_reducible refine ah ?_ | refine dQ (GY hs (by assumption)) (fun r hr => ?_))
 all_goals grind
def Small (l:List Call):Prop:=l.length < 2 ^ 61∧qI l (fun c=>c.Vals.length < 2 ^ 61)
theorem EZ {l:List Call} {e:Event} (hs:Small l):Tri (cz l e) (fun r=>r=true ↔ ¬ qI l (fun c=>pI c e.Kind)):=by
 have h1:Tri (bA l e) (fun r=>0≤r ↔ ¬ qI l (fun c=>pI c e.Kind)):=by
  have hl:=hs.1;unfold bA;refine kD l.length (fun j=>pI (idx l (j:Int)) e.Kind) ?_;intro k hk hJ;unfold eO pV
  dsimp only
  repeat' (first | contradiction | with_reducible refine ay (fun hq => ?_) (fun hq => ?_) | with_reducible refine aj (by first | omega | grind [bG]) ?_ | with_reducible refine aF ?_ | with_reducible refine bJ ?_ | with_reducible refine bS ?_ | with_reducible refine bT ?_ | with_reducible refine bU ?_ | with_reducible refine ah ?_ | refine fQ (yH _ _ (hs.2 k (by omega))) (fun r hr => ?_))
  all_goals grind [Nxt,qI,bG]
 unfold cz;refine fQ h1 (fun r hr => ?_)
 repeat' (first | contradiction | with_reducible refine ay (fun hq => ?_) (fun hq => ?_) | with_reducible refine aj (by first | omega | grind [bG]) ?_ | with_reducible refine aF ?_ | with_reducible refine bJ ?_ | with_reducible refine bS ?_ | with_reducible refine bT ?_ | with_reducible refine bU ?_ | with_reducible refine ah ?_)
 grind
def wE (e:Event):Prop:=0≤e.Kind∧e.Kind≤3∧e.Calls.length≤16∧qI e.Calls (fun c=>pI c e.Kind)
theorem yI {e:Event} (hs:Small e.Calls):Tri (fG [e]) (fun r=>(r=0↔wE e)∧(r=0∨r=1)):=by
 unfold fG;refine ay (fun h => ?_) (fun h => ?_)
 ·simp at h
 ·refine kD 1 (fun j=>wE e) ?_;intro k hk hJ;unfold ry mO
  dsimp only
  have hi:k=0→idx [e] (k:Int)=e:=by rintro rfl; rfl
  simp only [cond_true,cond_false]
  have hc:=fun h:k=0=>EZ (l:=e.Calls) (e:=e) hs
  by_cases h0:k=0
  ·rw [hi h0]
   repeat' (first | contradiction | with_reducible refine ay (fun hq => ?_) (fun hq => ?_) | with_reducible refine aj (by first | omega | grind [bG]) ?_ | with_reducible refine aF ?_ | with_reducible refine bJ ?_ | with_reducible refine bS ?_ | with_reducible refine bT ?_ | with_reducible refine bU ?_ | with_reducible refine ah ?_ | refine fQ (hc h0) (fun r hr => ?_))
   all_goals grind [Nxt,wE,bG]
  ·repeat' (first | contradiction | with_reducible refine ay (fun hq => ?_) (fun hq => ?_) | with_reducible refine aj (by first | omega | grind [bG]) ?_ | with_reducible refine aF ?_ | with_reducible refine bJ ?_ | with_reducible refine bS ?_ | with_reducible refine bT ?_ | with_reducible refine bU ?_ | with_reducible refine ah ?_ | refine fQ (hc (by grind)) (fun r hr => ?_))
   all_goals grind [Nxt,wE,bG]
theorem zi {e:Event} (hs:Small e.Calls):Tri (bI e) (fun r=>r=true↔wE e):=by
 unfold bI gY
 simp only [cond_true,cond_false]
 have hl:=hs.1;have h1:Tri (iter (jw e) 0) (fun r=>r=true↔qI e.Calls (fun c=>pI c e.Kind)):=by
  refine kD e.Calls.length (fun j=>pI (idx e.Calls (j:Int)) e.Kind) ?_;intro k hk hJ;unfold jw
  dsimp only
  repeat' (first | contradiction | with_reducible refine ay (fun hq => ?_) (fun hq => ?_) | with_reducible refine aj (by first | omega | grind [bG]) ?_ | with_reducible refine aF ?_ | with_reducible refine bJ ?_ | with_reducible refine bS ?_ | with_reducible refine bT ?_ | with_reducible refine bU ?_ | with_reducible refine ah ?_ | refine fQ (zT _ _ (hs.2 k (by omega))) (fun r hr => ?_))
  all_goals grind [Nxt,qI,bG]
 repeat' (first | contradiction | with_reducible refine ay (fun hq => ?_) (fun hq => ?_) | with_reducible refine aj (by first | omega | grind [bG]) ?_ | with_reducible refine aF ?_ | with_reducible refine bJ ?_ | with_reducible refine bS ?_ | with_reducible refine bT ?_ | with_reducible refine bU ?_ | with_reducible refine ah ?_ | refine dQ h1 (fun r hr => ?_))
 all_goals grind [wE]
theorem yJ {e:Event} (hs:Small e.Calls):Tri (dY [e]) (fun r=>(r=0↔wE e)∧(r=0∨r=1)):=by
 unfold dY;refine ay (fun h => ?_) (fun h => ?_)
 ·simp at h
 ·refine kD 1 (fun j=>wE e) ?_;intro k hk hJ;unfold lL
  dsimp only
  have hi:k=0→idx [e] (k:Int)=e:=by rintro rfl; rfl
  have hc:k=0→Tri (bI (idx [e] (k:Int))) (fun r=>r=true↔wE e):=fun h0=>by rw [hi h0]; exact zi hs
  repeat' (first | contradiction | with_reducible refine ay (fun hq => ?_) (fun hq => ?_) | with_reducible refine aj (by first | omega | grind [bG]) ?_ | with_reducible refine aF ?_ | with_reducible refine bJ ?_ | with_reducible refine bS ?_ | with_reducible refine bT ?_ | with_reducible refine bU ?_ | with_reducible refine ah ?_ | refine fQ (hc (by grind)) (fun r hr => ?_))
  all_goals grind [Nxt,bG]
def uK (h:History) (o:Op):Call:=⟨o.Kind,idx h.Keys o.Key,o.Arg,o.Got,o.Vals⟩
def cB (h:History) (t:Txn):List Call:=t.Ops.map (uK h)
def vQ (h:History) (t:Txn):Event:=⟨0,t.Status,cB h t⟩
def tC (h:History) (t:Txn):Prop:=qI t.Ops (fun o=>0≤o.Key∧o.Key < (h.Keys.length:Int))
def zk (t:Txn):Prop:=t.Ops.length * 56≤140737488351232∧qI t.Ops (fun o=>o.Vals.length * 8≤140737488351232)
theorem zk.small {h:History} {t:Txn} (hs:zk t) (k:Nat):Small ((cB h t).take k):=by
 have h1:=hs.1;refine ⟨by simp [cB]; omega,fun j hj => ?_⟩
 have hj':j < k∧j < t.Ops.length:=by simp [cB] at hj; omega
 rw [qy hj'.1,cB,vv hj'.2]
 have:=hs.2 j hj'.2
 show (idx t.Ops (j:Int)).Vals.length < _
 omega
theorem yc {h:History} {t:Txn} (hs:zk t):Tri (dK h t) (fun r=>(r.2=true↔tC h t∧wE (vQ h t))∧(r.2=true→r.1=vQ h t)):=by
 unfold dK;have hl:=hs.1;refine xy t.Ops.length (fun k l=>l=(cB h t).take k∧∀ j:Nat,j < k→0≤(idx t.Ops (j:Int)).Key∧(idx t.Ops (j:Int)).Key < (h.Keys.length:Int)) ⟨rfl,by omega⟩ ?_
 rintro k l hk ⟨rfl,hJ⟩;have hlen:((cB h t).take k).length=k:=by simp [cB]; omega
 unfold qc nD qb
 simp only [cond_true,cond_false,hlen]
 have hsm:=yI (e:=⟨0,t.Status,(cB h t).take k⟩) (hs.small k);have hfull:k=t.Ops.length→(cB h t).take k=cB h t:=fun e=>List.take_of_length_le (by simp [cB]; omega);have hnext:k < t.Ops.length→(cB h t).take (k + 1)=(cB h t).take k++[uK h (idx t.Ops (k:Int))]:=fun hk=>by
  rw [iO (by simpa [cB] using hk),cB,vv hk]
 repeat' (first | contradiction | with_reducible refine ay (fun hq => ?_) (fun hq => ?_) | with_reducible refine aj (by first | omega | grind [bG]) ?_ | with_reducible refine aF ?_ | with_reducible refine bJ ?_ | with_reducible refine bS ?_ | with_reducible refine bT ?_ | with_reducible refine bU ?_ | with_reducible refine ah ?_ | refine fQ hsm (fun r hr => ?_))
 all_goals grind [Up2,tC,qI,bG,uK,vQ]
def Ai (l:List Txn) (i:Nat):Prop:=∀ j:Nat,j < i → ¬ ((idx l (j:Int)).Proc=(idx l (i:Int)).Proc∧((idx l (j:Int)).To = -1∨(idx l (j:Int)).To ≥ (idx l (i:Int)).From))
def uL (l:List Txn) (i:Nat):Prop :=
 1≤(idx l (i:Int)).Status∧(idx l (i:Int)).Status≤3∧0≤(idx l (i:Int)).From∧((idx l (i:Int)).To = -1→(idx l (i:Int)).Status=3) ∧
  ((idx l (i:Int)).To ≠ -1→(idx l (i:Int)).From < (idx l (i:Int)).To)∧(0 < i→(idx l ((i - 1:Nat):Int)).From < (idx l (i:Int)).From)∧Ai l i
theorem Eg {l:List Txn} {i:Nat} (hi:i < l.length) (hl:l.length < 2 ^ 61):Tri (cu (di l 0 (i:Int)) (idx l (i:Int))) (fun r=>r=true ↔ ¬ Ai l i):=by
 have h1:Tri (bf (di l 0 (i:Int)) (idx l (i:Int))) (fun r=>0≤r ↔ ¬ Ai l i):=by
  rw [oJ (by omega)]
  unfold bf;have ht:(l.take i).length=i:=by simp; omega
  refine kD i (fun j => ¬ ((idx l (j:Int)).Proc=(idx l (i:Int)).Proc∧((idx l (j:Int)).To = -1∨(idx l (j:Int)).To ≥ (idx l (i:Int)).From))) ?_;intro k hk hJ;unfold dZ nE
  dsimp only
  rw [ht]
  have hx:k < i→idx (l.take i) (k:Int)=idx l (k:Int):=fun h=>qy h
  repeat' (first | contradiction | with_reducible refine ay (fun hq => ?_) (fun hq => ?_) | with_reducible refine aj (by first | omega | grind [bG]) ?_ | with_reducible refine aF ?_ | with_reducible refine bJ ?_ | with_reducible refine bS ?_ | with_reducible refine bT ?_ | with_reducible refine bU ?_ | with_reducible refine ah ?_)
  all_goals grind [Nxt,Ai,bG]
 unfold cu;refine fQ h1 (fun r hr => ?_)
 repeat' (first | contradiction | with_reducible refine ay (fun hq => ?_) (fun hq => ?_) | with_reducible refine aj (by first | omega | grind [bG]) ?_ | with_reducible refine aF ?_ | with_reducible refine bJ ?_ | with_reducible refine bS ?_ | with_reducible refine bT ?_ | with_reducible refine bU ?_ | with_reducible refine ah ?_)
 grind
theorem xk {l:List Txn} {i:Nat} (hi:i < l.length) (hl:l.length < 2 ^ 61):Tri (bH (di l 0 (i:Int)) (idx l (i:Int))) (fun r=>r=true↔uL l i):=by
 have hf:=Eg hi hl;have hlen:(di l 0 (i:Int)).length=i:=by rw [oJ (by omega)]; simp; omega
 have hx:0 < i→idx (di l 0 (i:Int)) (w64 ((i:Int) - 1))=idx l ((i - 1:Nat):Int):=fun h=>by
  rw [nS (by omega) (by omega),oJ (by omega),qy (by omega)]
 have hw:0 < i→w64 ((i:Int) - 1)=((i - 1:Nat):Int):=fun h=>nS (by omega) (by omega);unfold bH ng mZ mY kH uL
 simp only [cond_true,cond_false,hlen]
 repeat' (first | contradiction | with_reducible refine ay (fun hq => ?_) (fun hq => ?_) | with_reducible refine aj (by first | omega | grind [bG]) ?_ | with_reducible refine aF ?_ | with_reducible refine bJ ?_ | with_reducible refine bS ?_ | with_reducible refine bT ?_ | with_reducible refine bU ?_ | with_reducible refine ah ?_ | refine fQ hf (fun r hr => ?_))
 all_goals grind
theorem tZ {l:List Txn} {i:Nat} (hi:i < l.length) (hl:l.length < 2 ^ 61):Tri (aK l (i:Int)) (fun r=>r=true↔uL l i):=by
 have h1:Tri (iter (iX l (i:Int)) 0) (fun r=>r=true↔Ai l i):=by
  refine kD i (fun j => ¬ ((idx l (j:Int)).Proc=(idx l (i:Int)).Proc∧((idx l (j:Int)).To = -1∨(idx l (j:Int)).To ≥ (idx l (i:Int)).From))) ?_;intro k hk hJ;unfold iX gH
  simp only [cond_true,cond_false]
  repeat' (first | contradiction | with_reducible refine ay (fun hq => ?_) (fun hq => ?_) | with_reducible refine aj (by first | omega | grind [bG]) ?_ | with_reducible refine aF ?_ | with_reducible refine bJ ?_ | with_reducible refine bS ?_ | with_reducible refine bT ?_ | with_reducible refine bU ?_ | with_reducible refine ah ?_)
  all_goals grind [Nxt,Ai,bG]
 have hw:0 < i→w64 ((i:Int) - 1)=((i - 1:Nat):Int):=fun h=>nS (by omega) (by omega);unfold aK cK iY uL
 simp only [cond_true,cond_false]
 repeat' (first | contradiction | with_reducible refine ay (fun hq => ?_) (fun hq => ?_) | with_reducible refine aj (by first | omega | grind [bG]) ?_ | with_reducible refine aF ?_ | with_reducible refine bJ ?_ | with_reducible refine bS ?_ | with_reducible refine bT ?_ | with_reducible refine bU ?_ | with_reducible refine ah ?_ | refine dQ h1 (fun r hr => ?_))
 all_goals grind
def Dx (l:List ByteArray) (s:ByteArray) (r:Int):Prop :=
 (r = -1∧∀ j:Nat,j < l.length→idx l (j:Int)≠s)∨(∃ k:Nat,r=(k:Int)∧k < l.length∧idx l (k:Int)=s∧∀ j:Nat,j < k→idx l (j:Int)≠s)
theorem yf {l:List ByteArray} {s:ByteArray} (hl:l.length < 2 ^ 61):Tri (dN l s) (Dx l s):=by
 unfold dN;refine kD l.length (fun j=>idx l (j:Int)≠s) ?_;intro k hk hJ;unfold mG
 dsimp only
 repeat' (first | contradiction | with_reducible refine ay (fun hq => ?_) (fun hq => ?_) | with_reducible refine aj (by first | omega | grind [bG]) ?_ | with_reducible refine aF ?_ | with_reducible refine bJ ?_ | with_reducible refine bS ?_ | with_reducible refine bT ?_ | with_reducible refine bU ?_ | with_reducible refine ah ?_)
 ·exact .inr ⟨k,rfl,by omega,by assumption,hJ⟩
 ·grind [Nxt,bG]
 ·exact .inl ⟨rfl,fun j hj=>hJ j (by omega)⟩
def wF (l:List ByteArray) (i:Nat):Prop:=1≤(idx l (i:Int)).size∧(idx l (i:Int)).size≤32∧∀ j:Nat,j < i→idx l (j:Int)≠idx l (i:Int)
def nT (l:List ByteArray):Prop:=l.length≤32∧∀ i:Nat,i < l.length→wF l i
theorem zU {l:List ByteArray} {s:ByteArray} (hl:l.length < 2 ^ 61):Tri (slices_Contains_string l s) (fun r=>r=true↔∃ j:Nat,j < l.length∧idx l (j:Int)=s):=by
 have h1:Tri (slices_Index_string l s) (fun r=>0≤r↔∃ j:Nat,j < l.length∧idx l (j:Int)=s):=by
  unfold slices_Index_string;refine kD l.length (fun j=>idx l (j:Int)≠s) ?_;intro k hk hJ;unfold ku
  dsimp only
  repeat' (first | contradiction | with_reducible refine ay (fun hq => ?_) (fun hq => ?_) | with_reducible refine aj (by first | omega | grind [bG]) ?_ | with_reducible refine aF ?_ | with_reducible refine bJ ?_ | with_reducible refine bS ?_ | with_reducible refine bT ?_ | with_reducible refine bU ?_ | with_reducible refine ah ?_)
  all_goals grind [Nxt,bG]
 unfold slices_Contains_string;refine fQ h1 (fun r hr => ?_)
 repeat' (first | contradiction | with_reducible refine ay (fun hq => ?_) (fun hq => ?_) | with_reducible refine aj (by first | omega | grind [bG]) ?_ | with_reducible refine aF ?_ | with_reducible refine bJ ?_ | with_reducible refine bS ?_ | with_reducible refine bT ?_ | with_reducible refine bU ?_ | with_reducible refine ah ?_)
 grind
theorem zl {l:List ByteArray} (hl:l.length < 2 ^ 61):Tri (bQ l) (fun r=>r=true↔nT l):=by
 unfold bQ;refine kD l.length (wF l) ?_;intro k hk hJ;unfold lK gX
 simp only [cond_true,cond_false]
 have hf:Tri (dN (di l 0 (k:Int)) (idx l (k:Int))) (fun r=>0≤r↔∃ j:Nat,j < k∧idx l (j:Int)=idx l (k:Int)):=by
  rw [oJ (by omega)]
  refine dQ (yf (by simp; omega)) (fun r hr => ?_);have ht:(l.take k).length=k:=by simp; omega
  have hx:∀ j:Nat,j < k→idx (l.take k) (j:Int)=idx l (j:Int):=fun j h=>qy h;unfold Dx at hr
  rw [ht] at hr
  grind
 have hN:nT l→k < l.length→wF l k:=fun h hk=>h.2 k hk
 repeat' (first | contradiction | with_reducible refine ay (fun hq => ?_) (fun hq => ?_) | with_reducible refine aj (by first | omega | grind [bG]) ?_ | with_reducible refine aF ?_ | with_reducible refine bJ ?_ | with_reducible refine bS ?_ | with_reducible refine bT ?_ | with_reducible refine bU ?_ | with_reducible refine ah ?_ | refine fQ hf (fun r hr => ?_))
 all_goals (have hNk:wF l k↔(1≤(idx l (k:Int)).size∧(idx l (k:Int)).size≤32∧∀ j:Nat,j < k→idx l (j:Int)≠idx l (k:Int)):=Iff.rfl)
 all_goals grind [Nxt,nT,bG]
end Go.Proofs.YtnlkggppokcmfaaGreatT
namespace Go.Proofs.YtnlkggppokcmfaaGreatT
open Go Go.Proofs Go.Proofs.YtnlkggppokcmfaaGreatE
set_option linter.unusedVariables false
set_option linter.unusedSimpArgs false
def typ (k:Int):Int:=(k - 1) % 4 + 1
theorem uM {k:Int} (h1:1≤k) (h2:k≤8):lX k=some (typ k):=by
 have:k=1∨k=2∨k=3∨k=4∨k=5∨k=6∨k=7∨k=8:=by omega
 rcases this with h | h | h | h | h | h | h | h <;> subst h <;> decide
theorem xm {k:Int} (h1:1≤k) (h2:k≤8):fB k=some (typ k):=by
 have:k=1∨k=2∨k=3∨k=4∨k=5∨k=6∨k=7∨k=8:=by omega
 rcases this with h | h | h | h | h | h | h | h <;> subst h <;> decide
structure Sim (g:aX) (b:aD) (n:Nat):Prop where
 keys:g.keys=b.keys
 types:g.types=b.types
 len:b.keys.length≤32
 tl:b.types.length=b.keys.length
 wl:b.wrote.length=b.keys.length
 il:b.incs.length=b.keys.length
 ll:b.last_.length=b.keys.length
 nd:∀ i j:Nat,i < b.keys.length→j < b.keys.length→idx b.keys (i:Int)=idx b.keys (j:Int)→i=j
 has:∀ s,kF g.at_ s=true↔∃ j:Nat,j < b.keys.length∧idx b.keys (j:Int)=s
 at_:∀ j:Nat,j < b.keys.length→mat g.at_ (idx b.keys (j:Int))=(j:Int)
 facts:∀ j:Nat,j < b.keys.length→∀ a,kF g.facts ⟨idx b.keys (j:Int),a⟩=true↔∃ m:Nat,m < (idx b.wrote (j:Int)).length∧idx (idx b.wrote (j:Int)) (m:Int)=a
 fout:∀ s a,kF g.facts ⟨s,a⟩=true→∃ j:Nat,j < b.keys.length∧idx b.keys (j:Int)=s
 wn:∀ j:Nat,j < b.keys.length→(idx b.wrote (j:Int)).length≤n
 incs:∀ j:Nat,j < b.keys.length→((mat g.incs (idx b.keys (j:Int))).length:Int)=idx b.incs (j:Int)
 i8:∀ j:Nat,j < b.keys.length→(mat g.incs (idx b.keys (j:Int))).length≤8
 iout:∀ s,(∀ j:Nat,j < b.keys.length→idx b.keys (j:Int)≠s)→mat g.incs s=[]
 last:∀ j:Nat,j < b.keys.length→((mat g.incs (idx b.keys (j:Int))).length=0→idx b.last_ (j:Int) = -1) ∧
  (0 < (mat g.incs (idx b.keys (j:Int))).length→idx b.last_ (j:Int)=idx (mat g.incs (idx b.keys (j:Int))) (((mat g.incs (idx b.keys (j:Int))).length - 1:Nat):Int))
theorem Sim.start:Sim ⟨[],[],[],[],[]⟩ ⟨[],[],[],[],[]⟩ 0:=by
 refine ⟨rfl,rfl,by simp,rfl,rfl,rfl,rfl,?_,?_,?_,?_,?_,?_,?_,?_,?_,?_⟩
 all_goals simp [BU,Hu]
 rfl
theorem Sim.mono {g:aX} {b:aD} {n m:Nat} (h:Sim g b n) (hm:n≤m):Sim g b m :=
 { h with wn:=fun j hj=>Nat.le_trans (h.wn j hj) hm }
theorem Sim.new {g:aX} {b:aD} {n:Nat} (h:Sim g b n) {s:ByteArray} {t:Int} (hn:∀ j:Nat,j < b.keys.length→idx b.keys (j:Int)≠s) (a1:b.keys.length < 32) :
  Sim ⟨g.keys++[s],gP g.at_ s (g.keys.length:Int),g.types++[t],g.facts,g.incs⟩ ⟨b.keys++[s],b.types++[t],b.wrote++[[]],b.incs++[0],b.last_++[-1]⟩ n:=by
 have hk:=h.keys;have hl:(b.keys++[s]).length=b.keys.length + 1:=by simp
 have k1:∀ j:Nat,j < b.keys.length→idx (b.keys++[s]) (j:Int)=idx b.keys (j:Int):=fun j hj=>iL hj;have k2:idx (b.keys++[s]) ((b.keys.length:Nat):Int)=s:=jg rfl;have w1:∀ j:Nat,j < b.keys.length→idx (b.wrote++[[]]) (j:Int)=idx b.wrote (j:Int):=fun j hj=>iL (by rw [h.wl]; exact hj);have w2:idx (b.wrote++[[]]) ((b.keys.length:Nat):Int)=[]:=jg h.wl.symm;have i1:∀ j:Nat,j < b.keys.length→idx (b.incs++[0]) (j:Int)=idx b.incs (j:Int):=fun j hj=>iL (by rw [h.il]; exact hj);have i2:idx (b.incs++[0]) ((b.keys.length:Nat):Int)=0:=jg h.il.symm;have l1:∀ j:Nat,j < b.keys.length→idx (b.last_++[-1]) (j:Int)=idx b.last_ (j:Int):=fun j hj=>iL (by rw [h.ll]; exact hj);have l2:idx (b.last_++[-1]) ((b.keys.length:Nat):Int) = -1:=jg h.ll.symm;have a0:=h.iout s hn;have cut:∀ j:Nat,j < b.keys.length + 1→j < b.keys.length∨j=b.keys.length:=by omega
 refine ⟨by simp [hk],by simp [h.types],by simp; omega,by simp [h.tl],by simp [h.wl],by simp [h.il],by simp [h.ll],?_,?_,?_,?_,?_,?_,?_,?_,?_,?_⟩
 ·intro i j hi hj he
  dsimp only at hi hj he
  rw [hl] at hi hj
  have:=h.nd i j;rcases cut i hi with hi' | hi' <;> rcases cut j hj with hj' | hj' <;> grind
 ·intro x
  dsimp only
  rw [uS,hl,h.has]
  constructor
  ·rintro (rfl | ⟨j,hj,he⟩)
   ·exact ⟨_,Nat.lt_succ_self _,k2⟩
   ·exact ⟨j,by omega,(k1 j hj).trans he⟩
  ·rintro ⟨j,hj,he⟩;rcases cut j hj with hj' | hj'
   ·exact .inr ⟨j,hj',(k1 j hj') ▸ he⟩
   ·subst hj'; exact .inl (k2.symm.trans he).symm
 ·intro j hj
  dsimp only at hj ⊢
  rw [hl] at hj
  rw [oV,hk]
  rcases cut j hj with hj' | hj'
  ·rw [k1 j hj',if_neg (hn j hj')]; exact h.at_ j hj'
  ·subst hj'; rw [k2,if_pos rfl]
 ·intro j hj a
  dsimp only at hj ⊢
  rw [hl] at hj
  rcases cut j hj with hj' | hj'
  ·rw [k1 j hj',w1 j hj']; exact h.facts j hj' a
  ·subst hj'
   rw [k2,w2]
   constructor
   ·intro hh;obtain ⟨i,hi,he⟩:=h.fout s a hh;exact absurd he (hn i hi)
   ·rintro ⟨m,hm,_⟩; simp at hm
 ·intro x a hh;obtain ⟨i,hi,he⟩:=h.fout x a hh;exact ⟨i,by simp; omega,(k1 i hi).trans he⟩
 ·intro j hj
  dsimp only at hj ⊢
  rw [hl] at hj
  rcases cut j hj with hj' | hj'
  ·rw [w1 j hj']; exact h.wn j hj'
  ·subst hj'; rw [w2]; simp
 ·intro j hj
  dsimp only at hj ⊢
  rw [hl] at hj
  rcases cut j hj with hj' | hj'
  ·rw [k1 j hj',i1 j hj']; exact h.incs j hj'
  ·subst hj'; rw [k2,i2,a0]; rfl
 ·intro j hj
  dsimp only at hj ⊢
  rw [hl] at hj
  rcases cut j hj with hj' | hj'
  ·rw [k1 j hj']; exact h.i8 j hj'
  ·subst hj'; rw [k2,a0]; simp
 ·intro x hx
  dsimp only at hx ⊢
  rw [hl] at hx
  exact h.iout x (fun j hj=>by rw [← k1 j hj]; exact hx j (by omega))
 ·intro j hj
  dsimp only at hj ⊢
  rw [hl] at hj
  rcases cut j hj with hj' | hj'
  ·rw [k1 j hj',l1 j hj']; exact h.last j hj'
  ·subst hj'; rw [k2,l2,a0]; simp
theorem Sim.write {g:aX} {b:aD} {n k:Nat} (h:Sim g b n) {s:ByteArray} {a:Int} (hk:k < b.keys.length) (hs:idx b.keys (k:Int)=s) :
  Sim ⟨g.keys,g.at_,g.types,gP g.facts ⟨s,a⟩ (),g.incs⟩ ⟨b.keys,b.types,b.wrote.set k (idx b.wrote (k:Int)++[a]),b.incs,b.last_⟩ (n + 1):=by
 have w1:∀ j:Nat,idx (b.wrote.set k (idx b.wrote (k:Int)++[a])) (j:Int)=if j=k then idx b.wrote (k:Int)++[a] else idx b.wrote (j:Int):=fun j=>mU (by rw [h.wl]; exact hk);refine ⟨h.keys,h.types,h.len,h.tl,by simp [h.wl],h.il,h.ll,h.nd,h.has,h.at_,?_,?_,?_,h.incs,h.i8,h.iout,h.last⟩
 ·intro j hj x
  dsimp only at hj ⊢
  rw [uS,w1 j,h.facts j hj]
  by_cases e:j=k
  ·subst e
   rw [if_pos rfl,hs]
   constructor
   ·rintro (he | ⟨m,hm,he⟩)
    ·have:x=a:=by injection he
     subst this;exact ⟨_,by simp,jg rfl⟩
    ·exact ⟨m,by simp; omega,(iL hm).trans he⟩
   ·rintro ⟨m,hm,he⟩;rcases Nat.lt_or_ge m (idx b.wrote (j:Int)).length with h1 | h1
    ·exact .inr ⟨m,h1,(iL h1).symm.trans he⟩
    ·simp at hm
     rw [jg (by omega)] at he
     rw [he]; exact .inl rfl
  ·rw [if_neg e]
   constructor
   ·rintro (he | hh)
    ·injection he with h1 h2
     exact absurd (h.nd j k hj hk (h1.trans hs.symm)) e
    ·exact hh
   ·exact .inr
 ·intro x y hh
  dsimp only at hh ⊢
  rcases uS.1 hh with he | hh
  ·injection he with h1 h2
   exact ⟨k,hk,hs.trans h1.symm⟩
  ·exact h.fout x y hh
 ·intro j hj
  dsimp only at hj ⊢
  rw [w1 j]
  have:=h.wn j hj
  split
  ·rename_i e; subst e; simp; omega
  ·omega
theorem Sim.inc {g:aX} {b:aD} {n k:Nat} (h:Sim g b n) {s:ByteArray} {a:Int} (hk:k < b.keys.length) (hs:idx b.keys (k:Int)=s) (h8:(mat g.incs s).length < 8) :
  Sim ⟨g.keys,g.at_,g.types,g.facts,gP g.incs s (mat g.incs s++[a])⟩ ⟨b.keys,b.types,b.wrote,b.incs.set k (idx b.incs (k:Int) + 1),b.last_.set k a⟩ n:=by
 have i1:∀ j:Nat,idx (b.incs.set k (idx b.incs (k:Int) + 1)) (j:Int)=if j=k then idx b.incs (k:Int) + 1 else idx b.incs (j:Int):=fun j=>mU (by rw [h.il]; exact hk);have l1:∀ j:Nat,idx (b.last_.set k a) (j:Int)=if j=k then a else idx b.last_ (j:Int):=fun j=>mU (by rw [h.ll]; exact hk);have hne:∀ j:Nat,j < b.keys.length→j≠k→idx b.keys (j:Int)≠s:=fun j hj e he=>e (h.nd j k hj hk (he.trans hs.symm));refine ⟨h.keys,h.types,h.len,h.tl,h.wl,by simp [h.il],by simp [h.ll],h.nd,h.has,h.at_,h.facts,h.fout,h.wn,?_,?_,?_,?_⟩
 ·intro j hj
  dsimp only at hj ⊢
  rw [oV,i1 j]
  by_cases e:j=k
  ·subst e
   rw [if_pos hs,if_pos rfl,← h.incs j hj,hs]; simp
  ·rw [if_neg (hne j hj e),if_neg e]; exact h.incs j hj
 ·intro j hj
  dsimp only at hj ⊢
  rw [oV]
  by_cases e:j=k
  ·subst e
   rw [if_pos hs]; simp; omega
  ·rw [if_neg (hne j hj e)]; exact h.i8 j hj
 ·intro x hx
  dsimp only at hx ⊢
  rw [oV,if_neg (fun e=>hx k hk (hs.trans e.symm))]
  exact h.iout x hx
 ·intro j hj
  dsimp only at hj ⊢
  rw [oV,l1 j]
  by_cases e:j=k
  ·subst e
   rw [if_pos hs,if_pos rfl]
   refine ⟨fun h0=>by simp at h0,fun _ => ?_⟩
   rw [jg (by simp)]
  ·rw [if_neg (hne j hj e),if_neg e]; exact h.last j hj
theorem CJ {c:Call} {who:Int} {a4:List ByteArray} {a3:List Int} {a0:List (List Int)} {a1 a2:List Int} {k:Nat} {Q:Int×aD→Prop} (hk:k < a0.length) (hb:(idx a0 (k:Int)).length≤4096)
  (h1:(∃ m:Nat,m < (idx a0 (k:Int)).length∧idx (idx a0 (k:Int)) (m:Int)=c.Arg)→Q (3,⟨a4,a3,a0,a1,a2⟩))
  (h2:(¬ ∃ m:Nat,m < (idx a0 (k:Int)).length∧idx (idx a0 (k:Int)) (m:Int)=c.Arg)→Tri (dR c who a4 a3 a1 a2 (k:Int) (a0.set k (idx a0 (k:Int)++[c.Arg]))) Q) :
  Tri (iter (gm c who a4 a3 a0 a1 a2 (k:Int)) 0) Q:=by
 refine kD (idx a0 (k:Int)).length (fun m=>idx (idx a0 (k:Int)) (m:Int)≠c.Arg) ?_;intro m hm hJ;unfold gm
 dsimp only
 rw [Int.toNat_natCast]
 repeat' (first | contradiction | with_reducible refine ay (fun hq => ?_) (fun hq => ?_) | with_reducible refine aj (by first | omega | grind [bG]) ?_ | with_reducible refine aF ?_ | with_reducible refine bJ ?_ | with_reducible refine bS ?_ | with_reducible refine bT ?_ | with_reducible refine bU ?_ | with_reducible refine ah ?_)
 ·exact h1 ⟨m,by omega,by assumption⟩
 ·grind [Nxt,bG]
 ·exact h2 (by grind)
def Both (r:Int×aX) (n:Nat) (r':Int×aD):Prop:=r.1=r'.1∧(r.1=0→Sim r.2 r'.2 n)
def CK (b:aD) (c:Call) (who:Int) (k:Nat) (r:Int×aD):Prop :=
 (idx b.types (k:Int)≠typ c.Kind∧r=(50,b)) ∨
 (idx b.types (k:Int)=typ c.Kind∧(c.Kind=2∨c.Kind=3)∧(∃ m:Nat,m < (idx b.wrote (k:Int)).length∧idx (idx b.wrote (k:Int)) (m:Int)=c.Arg)∧r=(3,b)) ∨
 (idx b.types (k:Int)=typ c.Kind∧(c.Kind=2∨c.Kind=3)∧(¬ ∃ m:Nat,m < (idx b.wrote (k:Int)).length∧idx (idx b.wrote (k:Int)) (m:Int)=c.Arg) ∧
  r=(0,⟨b.keys,b.types,b.wrote.set k (idx b.wrote (k:Int)++[c.Arg]),b.incs,b.last_⟩)) ∨
 (idx b.types (k:Int)=typ c.Kind∧c.Kind=4∧idx b.last_ (k:Int)≠who∧idx b.incs (k:Int) + 1 > 8∧r.1=51) ∨
 (idx b.types (k:Int)=typ c.Kind∧c.Kind=4∧idx b.last_ (k:Int)≠who∧idx b.incs (k:Int) + 1≤8 ∧
  r=(0,⟨b.keys,b.types,b.wrote,b.incs.set k (idx b.incs (k:Int) + 1),b.last_.set k who⟩)) ∨
 (idx b.types (k:Int)=typ c.Kind∧c.Kind=4∧idx b.last_ (k:Int)=who∧r=(0,b)) ∨
 (idx b.types (k:Int)=typ c.Kind∧c.Kind≠2∧c.Kind≠3∧c.Kind≠4∧r=(0,b))
theorem AR {b:aD} {k:Nat} {c:Call} {who:Int} (hk:k < b.keys.length) (t1:b.types.length=b.keys.length) (t2:b.wrote.length=b.keys.length) (t3:b.incs.length=b.keys.length)
  (t4:b.last_.length=b.keys.length) (hwr:(idx b.wrote (k:Int)).length≤4096) (hin:0≤idx b.incs (k:Int)∧idx b.incs (k:Int)≤8)
  (h1:1≤c.Kind) (h8:c.Kind≤8):Tri (dC c who b.keys b.types b.wrote b.incs b.last_ (k:Int)) (CK b c who k):=by
 have e1:w64 (idx b.incs (k:Int) + 1)=idx b.incs (k:Int) + 1:=bG (by omega) (by omega);have e2:idx (b.incs.set k (idx b.incs (k:Int) + 1)) (k:Int)=idx b.incs (k:Int) + 1:=by rw [mU (by omega),if_pos rfl]
 unfold dC gp dR eT eQ
 simp only [cond_true,cond_false,xm h1 h8,Int.toNat_natCast,e1,e2]
 repeat' (first | contradiction | with_reducible refine ay (fun hq => ?_) (fun hq => ?_) | with_reducible refine aj (by first | omega | grind [bG]) ?_ | with_reducible refine aF ?_ | with_reducible refine bJ ?_ | with_reducible refine bS ?_ | with_reducible refine bT ?_ | with_reducible refine bU ?_ | with_reducible refine ah ?_ | refine CJ (by omega) hwr (fun h => ?_) (fun h => ?_))
 all_goals try unfold dR eT eQ
 all_goals try simp only [cond_true,cond_false,Int.toNat_natCast,e1,e2]
 repeat' (first | contradiction | with_reducible refine ay (fun hq => ?_) (fun hq => ?_) | with_reducible refine aj (by first | omega | grind [bG]) ?_ | with_reducible refine aF ?_ | with_reducible refine bJ ?_ | with_reducible refine bS ?_ | with_reducible refine bT ?_ | with_reducible refine bU ?_ | with_reducible refine ah ?_)
 all_goals grind [CK]
theorem enter_at {g:aX} {b:aD} {n k:Nat} {a0:aX} {c:Call} {who:Int} (h:Sim g b n) (hf:a0.facts=g.facts) (hi:a0.incs=g.incs) (hk:k < b.keys.length) (hs:idx b.keys (k:Int)=c.Key)
  (h1:1≤c.Kind) (h8:c.Kind≤8) (hw:0≤who) (hn:n≤2048) :
  Tri (gz a0 c who g.keys g.at_ g.types (k:Int)) (fun r=>Tri (dC c who b.keys b.types b.wrote b.incs b.last_ (k:Int)) (Both r (n + 1))):=by
 obtain ⟨gk,ga,gt,gf,gi⟩:=g
 dsimp only at hf hi
 have htl:=h.types;have hkk:=h.keys
 dsimp only at htl hkk ⊢
 subst htl hkk;have t1:=h.tl;have t2:=h.wl;have t3:=h.il;have t4:=h.ll;have hfa:=h.facts k hk c.Arg;have hin:=h.incs k hk;have a1:=h.i8 k hk;have hla:=h.last k hk;have hwr:=h.wn k hk
 rw [hs] at hfa hin a1 hla
 dsimp only at hfa hin a1 hla
 obtain ⟨r',hr',spec⟩:=AR (who:=who) hk t1 t2 t3 t4 (by omega) (by omega) h1 h8;have s0:=h.mono (Nat.le_succ n);have s1:=h.write (a:=c.Arg) hk hs;have s2:(mat gi c.Key).length < 8→_:=fun hl=>(h.inc (a:=who) hk hs hl).mono (Nat.le_succ n)
 dsimp only at s1 s2
 have e3:0 < (mat gi c.Key).length→w64 (((mat gi c.Key).length:Int) - 1)=(((mat gi c.Key).length - 1:Nat):Int):=fun h=>nS (by omega) (by omega);have m1:mat (gP gi c.Key (mat gi c.Key++[who])) c.Key=mat gi c.Key++[who]:=by rw [oV,if_pos rfl]
 unfold gz iT kM iR iQ gy
 simp only [cond_true,cond_false,uM h1 h8,hf,hi,m1]
 repeat' (first | contradiction | with_reducible refine ay (fun hq => ?_) (fun hq => ?_) | with_reducible refine aj (by first | omega | grind [bG]) ?_ | with_reducible refine aF ?_ | with_reducible refine bJ ?_ | with_reducible refine bS ?_ | with_reducible refine bT ?_ | with_reducible refine bU ?_ | with_reducible refine ah ?_)
 all_goals refine ⟨r',hr',?_⟩
 all_goals unfold CK at spec
 all_goals simp only [Both]
 all_goals grind
theorem CL {g:aX} {b:aD} {n:Nat} {c:Call} {who:Int} (h:Sim g b n) (h1:1≤c.Kind) (h8:c.Kind≤8) (hw:0≤who) (hn:n≤2048) :
  Tri (az g c who) (fun r=>Tri (ag b c who) (Both r (n + 1))):=by
 have hl:=h.len;have t1:=h.tl;have t2:=h.wl;have t3:=h.il;have t4:=h.ll;have hk:=h.keys;have ht:=h.types;obtain ⟨r0,a3,hf⟩:=yf (l:=b.keys) (s:=c.Key) (by omega);rcases hf with ⟨rfl,hno⟩ | ⟨k,rfl,a1,a2,_⟩
 ·have hm:¬ kF g.at_ c.Key=true:=fun hh=>by
   obtain ⟨j,hj,he⟩:=(h.has c.Key).1 hh;exact hno j hj he
  unfold az ag kN
  simp only [a3,uM h1 h8,hk,ht]
  refine ay (fun _ => ?_) (fun hh=>absurd hm hh);refine ay (fun a4 => ?_) (fun a4 => ?_)
  ·refine ah (bJ ?_)
   repeat' (first | contradiction | with_reducible refine ay (fun hq => ?_) (fun hq => ?_) | with_reducible refine aj (by first | omega | grind [bG]) ?_ | with_reducible refine aF ?_ | with_reducible refine bJ ?_ | with_reducible refine bS ?_ | with_reducible refine bT ?_ | with_reducible refine bU ?_ | with_reducible refine ah ?_)
   ·exact ⟨rfl,fun h=>by cases h⟩
   ·omega
  ·have hS:=h.new (s:=c.Key) (t:=typ c.Kind) hno (by omega)
   rw [hk,ht] at hS
   have he:=enter_at (a0:=g) (who:=who) hS rfl rfl (k:=b.keys.length) (by simp) (jg rfl) h1 h8 hw hn
   dsimp only at he
   refine aj (by omega) (bJ (aj (by omega) ?_));refine dQ he (fun r hr => ?_);unfold gu gq
   simp only [xm h1 h8]
   repeat' (first | contradiction | with_reducible refine ay (fun hq => ?_) (fun hq => ?_) | with_reducible refine aj (by first | omega | grind [bG]) ?_ | with_reducible refine aF ?_ | with_reducible refine bJ ?_ | with_reducible refine bS ?_ | with_reducible refine bT ?_ | with_reducible refine bU ?_ | with_reducible refine ah ?_ | exact hr)
   omega
 ·have hm:kF g.at_ c.Key=true:=(h.has c.Key).2 ⟨k,a1,a2⟩;have hat:mat g.at_ c.Key=(k:Int):=by rw [← a2]; exact h.at_ k a1
  have he:=enter_at (a0:=g) (who:=who) h rfl rfl a1 a2 h1 h8 hw hn;unfold az ag
  simp only [a3,hat]
  refine ay (fun hh=>absurd hm hh) (fun _ => ?_);refine dQ he (fun r hr=>bJ ?_)
  repeat' (first | contradiction | with_reducible refine ay (fun hq => ?_) (fun hq => ?_) | with_reducible refine aj (by first | omega | grind [bG]) ?_ | with_reducible refine aF ?_ | with_reducible refine bJ ?_ | with_reducible refine bS ?_ | with_reducible refine bT ?_ | with_reducible refine bU ?_ | with_reducible refine ah ?_ | exact hr)
abbrev GS:=List ByteArray×(List (ByteArray×Int))×List Int×(List (bV×Unit))×(List (ByteArray×(List Int)))×Int
abbrev BS:=List ByteArray×List Int×(List (List Int))×List Int×List Int×Int
def BA (g:aX) (x:Int):GS:=(g.keys,g.at_,g.types,g.facts,g.incs,x)
def xn (b:aD) (x:Int):BS:=(b.keys,b.types,b.wrote,b.incs,b.last_,x)
def Go1 (i n:Nat):GS ⊕ (Int ⊕ Int)→(List Call×Int) ⊕ (BS ⊕ Int)→Prop
 | .inl s,.inr (.inl t)=>∃ g b,s=BA g ((i + 1:Nat):Int)∧t=xn b ((i + 1:Nat):Int)∧Sim g b n
 | .inr (.inr a),.inr (.inr b)=>a=1∧b=1
 | _,_=>False
theorem enters {g:aX} {b:aD} {n i:Nat} {l:List Call} {y:Event×Bool} (h:Sim g b n) (hy:y.1.Calls=l) (hl:l.length≤16) (hi:i < 64) (hn:n≤1024) (hc:qI l (fun c=>1≤c.Kind∧c.Kind≤8)) :
  Tri (iter (nG (i:Int) y) (BA g 0)) (fun x=>Tri (iter (eu (i:Int) l) (xn b 0)) (Go1 i (n + 16) x)):=by
 refine Ap l.length (fun k s t=>∃ g b,s=BA g (k:Int)∧t=xn b (k:Int)∧Sim g b (n + k)) (Nat.zero_le _) ⟨g,b,rfl,rfl,h⟩ ?_;rintro k s t hk ⟨g,b,rfl,rfl,hS⟩;unfold nG eu BA xn
 dsimp only
 rw [hy]
 refine ay (fun h => ?_) (fun h => ?_)
 ·refine aj (by omega) ?_;obtain ⟨r,hr,r',hr',hb⟩:=CL (who:=(i:Int)) hS (hc k (by omega)).1 (hc k (by omega)).2 (by omega) (by omega);refine dA hr ?_;have hw:w64 ((k:Int) + 1)=((k + 1:Nat):Int):=bn (by omega)
  rw [hw]
  repeat' (first | contradiction | with_reducible refine ay (fun hq => ?_) (fun hq => ?_) | with_reducible refine aj (by first | omega | grind [bG]) ?_ | with_reducible refine aF ?_ | with_reducible refine bJ ?_ | with_reducible refine bS ?_ | with_reducible refine bT ?_ | with_reducible refine bU ?_ | with_reducible refine ah ?_ | refine dA hr' ?_)
  ·exact ⟨rfl,rfl⟩
  ·exact absurd (by rw [hb.1]; omega) ‹r.1≠0›
  ·exact absurd (by rw [← hb.1]; omega) ‹r'.1≠0›
  ·exact ⟨by omega,r.2,r'.2,rfl,rfl,hb.2 (by omega)⟩
 ·have hw:w64 ((i:Int) + 1)=((i + 1:Nat):Int):=bn (by omega)
  rw [hw]
  repeat' (first | contradiction | with_reducible refine ay (fun hq => ?_) (fun hq => ?_) | with_reducible refine aj (by first | omega | grind [bG]) ?_ | with_reducible refine aF ?_ | with_reducible refine bJ ?_ | with_reducible refine bS ?_ | with_reducible refine bT ?_ | with_reducible refine bU ?_ | with_reducible refine ah ?_)
  exact ⟨g,b,rfl,rfl,hS.mono (by omega)⟩
theorem AU {h:History} {i:Nat} {b:aD} {Q:BS ⊕ Int→Prop} (hi:i < h.Txns.length) (hs:zk (idx h.Txns (i:Int))) (a1:(idx h.Txns (i:Int)).Ops.length≤16)
  (h1:¬ (tC h (idx h.Txns (i:Int))∧wE (vQ h (idx h.Txns (i:Int))))→Q (.inr 1))
  (h2:tC h (idx h.Txns (i:Int))→wE (vQ h (idx h.Txns (i:Int)))→Tri (iter (eu (i:Int) (cB h (idx h.Txns (i:Int)))) (xn b 0)) (fun x=>match x with | .inl _=>False | .inr y=>Q y)) :
  Tri (iter (eB h b.keys b.types b.wrote b.incs b.last_ (i:Int)) ([],0)) Q:=by
 generalize ht:idx h.Txns (i:Int)=t at hs a1 h1 h2;refine xy t.Ops.length (fun k l=>l=(cB h t).take k∧∀ j:Nat,j < k→0≤(idx t.Ops (j:Int)).Key∧(idx t.Ops (j:Int)).Key < (h.Keys.length:Int)) ⟨rfl,by omega⟩ ?_
 rintro k l hk ⟨rfl,hJ⟩;have hlen:((cB h t).take k).length=k:=by simp [cB]; omega
 unfold eB jy lM
 simp only [cond_true,cond_false,hlen,ht]
 have hsm:=yJ (e:=⟨0,t.Status,(cB h t).take k⟩) (hs.small k);have hfull:k=t.Ops.length→(cB h t).take k=cB h t:=fun e=>List.take_of_length_le (by simp [cB]; omega);have hnext:k < t.Ops.length→(cB h t).take (k + 1)=(cB h t).take k++[uK h (idx t.Ops (k:Int))]:=fun hk=>by
  rw [iO (by simpa [cB] using hk),cB,vv hk]
 have hw:w64 ((k:Int) + 1)=((k + 1:Nat):Int):=bn (by omega)
 rw [hw]
 repeat' (first | contradiction | with_reducible refine ay (fun hq => ?_) (fun hq => ?_) | with_reducible refine aj (by first | omega | grind [bG]) ?_ | with_reducible refine aF ?_ | with_reducible refine bJ ?_ | with_reducible refine bS ?_ | with_reducible refine bT ?_ | with_reducible refine bU ?_ | with_reducible refine ah ?_ | refine fQ hsm (fun r hr => ?_))
 ·grind [Up2,tC,qI]
 ·grind [Up2,tC,qI]
 ·grind [Up2,uK]
 ·have a0:k=t.Ops.length:=by omega
  rw [hfull a0] at hr
  refine h1 (fun hh => ?_);have:=hr.1.2 hh.2
  contradiction
 ·have a0:k=t.Ops.length:=by omega
  rw [hfull a0] at hr ⊢
  have hK:tC _ t:=fun j hj=>hJ j (by omega);refine dQ (h2 hK (hr.1.1 (by omega))) ?_;rintro (x | y) hxy
  ·exact hxy.elim
  ·exact hxy
def xq (h:History) (i:Nat):Prop:=uL h.Txns i∧tC h (idx h.Txns (i:Int))∧wE (vQ h (idx h.Txns (i:Int)))
def pJ (h:History):Prop:=h.Keys.length * 16≤140737488351232∧h.Txns.length * 56≤140737488351232∧qI h.Txns zk
theorem Eh {h:History} (hs:pJ h) (hN:nT h.Keys) (a7:h.Txns.length≤32) :
  Tri (iter (lH h) (BA ⟨[],[],[],[],[]⟩ 0)) (fun x=>Tri (iter (ib h) (xn ⟨[],[],[],[],[]⟩ 0)) (fun y=>(∃ v,x = .inr v∧v=y)∧(y=0∨y=1))):=by
 obtain ⟨a8,a9,a1⟩:=hs;refine Ap h.Txns.length (fun k s t=>∃ g b,s=BA g (k:Int)∧t=xn b (k:Int)∧Sim g b (k * 16)∧∀ j:Nat,j < k→xq h j) (Nat.zero_le _) ⟨_,_,rfl,rfl,Sim.start,fun j hj=>absurd hj (Nat.not_lt_zero _)⟩ ?_;rintro k s t hk ⟨g,b,rfl,rfl,hS,hJ⟩;unfold lH nH ib gZ BA xn
 simp only [cond_true,cond_false]
 refine ay (fun a5 => ?_) (fun a5 => ?_)
 ·have a0:k < h.Txns.length:=by omega
  obtain ⟨r,hr,a3,a6⟩:=yc (h:=h) (a1 k a0);obtain ⟨p,hp,a2⟩:=xk (l:=h.Txns) a0 (by omega);obtain ⟨p',hp',hp1'⟩:=tZ (l:=h.Txns) a0 (by omega);have hco:wE (vQ h (idx h.Txns (k:Int)))→(idx h.Txns (k:Int)).Ops.length≤16:=fun he=>by
   have:=he.2.2.1
   simpa [vQ,cB] using this
  refine aj (by omega) (dA hr ?_)
  by_cases hok:xq h k
  ·have e1:r.2=true:=a3.2 ⟨hok.2.1,hok.2.2⟩;have e2:p=true:=a2.2 hok.1;have e3:p'=true:=hp1'.2 hok.1;have hc:qI (cB h (idx h.Txns (k:Int))) (fun c=>1≤c.Kind∧c.Kind≤8):=fun j hj=>⟨(hok.2.2.2.2.2 j hj).1,(hok.2.2.2.2.2 j hj).2.1⟩;obtain ⟨x,hx,y,hy,hxy⟩:=enters (y:=r) (i:=k) hS (congrArg Event.Calls (a6 e1)) hok.2.2.2.2.1 (by omega) (by omega) hc;refine ay (fun h=>absurd e1 h) (fun _ => ?_);refine aj (by omega) (dA hp ?_);refine ay (fun h=>absurd e2 h) (fun _ => ?_);refine ⟨x,hx,?_⟩
   repeat' (first | contradiction | with_reducible refine ay (fun hq => ?_) (fun hq => ?_) | with_reducible refine aj (by first | omega | grind [bG]) ?_ | with_reducible refine aF ?_ | with_reducible refine bJ ?_ | with_reducible refine bS ?_ | with_reducible refine bT ?_ | with_reducible refine bU ?_ | with_reducible refine ah ?_ | refine dA hp' ?_)
   ·exact absurd (hco hok.2.2) (by omega)
   ·refine AU a0 (a1 k a0) (hco hok.2.2) (fun hn=>absurd ⟨hok.2.1,hok.2.2⟩ hn) (fun _ _=>⟨y,hy,?_⟩);rcases x with s | a | a <;> rcases y with t | t | t
    ·exact hxy.elim
    ·obtain ⟨g',b',rfl,rfl,hS'⟩:=hxy;refine ⟨by omega,g',b',rfl,rfl,(show k * 16 + 16=(k + 1) * 16 by omega) ▸ hS',fun j hj => ?_⟩
     rcases Nat.lt_or_ge j k with h1 | h1
     ·exact hJ j h1
     ·rw [show j=k by omega]; exact hok
    ·exact hxy.elim
    ·exact hxy.elim
    ·exact hxy.elim
    ·exact hxy.elim
    ·exact hxy.elim
    ·exact hxy.elim
    ·obtain ⟨rfl,rfl⟩:=hxy;exact ⟨⟨1,rfl,rfl⟩,.inr rfl⟩
  ·have h1:Tri (iter (eB h b.keys b.types b.wrote b.incs b.last_ (k:Int)) ([],0)) (fun y=>p'=true→(idx h.Txns (k:Int)).Ops.length≤16→y = .inr 1) ∨ ¬ ((idx h.Txns (k:Int)).Ops.length≤16) ∨ ¬ p'=true:=by
    by_cases a4:(idx h.Txns (k:Int)).Ops.length≤16
    ·by_cases h3:p'=true
     ·refine .inl (AU a0 (a1 k a0) a4 (fun _ _ _=>rfl) (fun q1 q2=>absurd ⟨hp1'.1 h3,q1,q2⟩ hok))
     ·exact .inr (.inr h3)
    ·exact .inr (.inl a4)
   have hend:Tri (aK h.Txns (k:Int)) (fun y=>Tri (bif !y then (out (some 1):Option (BS ⊕ Int)) else bif decide ((((idx h.Txns (k:Int)).Ops).length:Int) > 16) then out (some 1) else iter (eB h b.keys b.types b.wrote b.incs b.last_ (k:Int)) ([],0)) (fun y=>y = .inr 1)):=by
    refine ⟨p',hp',?_⟩
    repeat' (first | contradiction | with_reducible refine ay (fun hq => ?_) (fun hq => ?_) | with_reducible refine aj (by first | omega | grind [bG]) ?_ | with_reducible refine aF ?_ | with_reducible refine bJ ?_ | with_reducible refine bS ?_ | with_reducible refine bT ?_ | with_reducible refine bU ?_ | with_reducible refine ah ?_)
    ·rfl
    ·rfl
    ·rcases h1 with h1 | h1 | h1
     ·exact dQ h1 (fun y hy=>hy (Decidable.of_not_not ‹¬¬p'=true›) (by omega))
     ·omega
     ·contradiction
   have hend2:∀ {Q:BS ⊕ Int→Prop},Q (.inr 1)→Tri ((aK h.Txns (k:Int)).bind fun y=>bif !y then (out (some 1):Option (BS ⊕ Int)) else bif decide ((((idx h.Txns (k:Int)).Ops).length:Int) > 16) then out (some 1) else iter (eB h b.keys b.types b.wrote b.incs b.last_ (k:Int)) ([],0)) Q:=by
    intro Q hQ;refine fQ hend (fun y hy=>dQ hy ?_);rintro _ rfl;exact hQ
   repeat' (first | contradiction | with_reducible refine ay (fun hq => ?_) (fun hq => ?_) | with_reducible refine aj (by first | omega | grind [bG]) ?_ | with_reducible refine aF ?_ | with_reducible refine bJ ?_ | with_reducible refine bS ?_ | with_reducible refine bT ?_ | with_reducible refine bU ?_ | with_reducible refine ah ?_ | refine dA hp ?_)
   ·refine hend2 ?_;exact ⟨⟨1,rfl,rfl⟩,.inr rfl⟩
   ·refine hend2 ?_;exact ⟨⟨1,rfl,rfl⟩,.inr rfl⟩
   ·exact absurd ⟨a2.1 (by grind),a3.1 (by grind)⟩ hok
 ·repeat' (first | contradiction | with_reducible refine ay (fun hq => ?_) (fun hq => ?_) | with_reducible refine aj (by first | omega | grind [bG]) ?_ | with_reducible refine aF ?_ | with_reducible refine bJ ?_ | with_reducible refine bS ?_ | with_reducible refine bT ?_ | with_reducible refine bU ?_ | with_reducible refine ah ?_)
  exact ⟨⟨0,rfl,rfl⟩,.inl rfl⟩
theorem yg {h:History} (hs:pJ h):Tri (aO h) (fun v=>Tri (ak h) (fun v'=>v=v'∧(v=0∨v=1))):=by
 obtain ⟨a3,a4,a2⟩:=hs;obtain ⟨y,hy,hn⟩:=zl (l:=h.Keys) (by omega);have hT:=fun hN a0=>Eh (h:=h) ⟨a3,a4,a2⟩ hN a0;have hfail:¬ (nT h.Keys∧h.Txns.length≤32)→ak h=some 1:=by
  intro hno;refine fD.1 ?_;unfold ak fH
  simp only [cond_true,cond_false]
  repeat' (first | contradiction | with_reducible refine ay (fun hq => ?_) (fun hq => ?_) | with_reducible refine aj (by first | omega | grind [bG]) ?_ | with_reducible refine aF ?_ | with_reducible refine bJ ?_ | with_reducible refine bS ?_ | with_reducible refine bT ?_ | with_reducible refine bU ?_ | with_reducible refine ah ?_ | refine dA hy ?_)
  ·rfl
  ·rfl
  ·exact absurd ⟨hn.1 (Decidable.of_not_not ‹¬¬y=true›),by omega⟩ hno
 have hgood:nT h.Keys→h.Txns.length≤32→Tri (iter (lH h) (BA ⟨[],[],[],[],[]⟩ 0)) (fun x=>Tri (ak h) (fun v'=>x = .inr v'∧(v'=0∨v'=1))):=by
  intro hN a0;refine dQ (hT hN a0) (fun x hx => ?_);unfold ak fH
  simp only [cond_true,cond_false]
  have:=hn.2 hN
  repeat' (first | contradiction | with_reducible refine ay (fun hq => ?_) (fun hq => ?_) | with_reducible refine aj (by first | omega | grind [bG]) ?_ | with_reducible refine aF ?_ | with_reducible refine bJ ?_ | with_reducible refine bS ?_ | with_reducible refine bT ?_ | with_reducible refine bU ?_ | with_reducible refine ah ?_ | refine dA hy ?_)
  ·omega
  ·refine dQ hx (fun v hv => ?_);obtain ⟨⟨v2,rfl,rfl⟩,h2⟩:=hv;exact ⟨rfl,h2⟩
 have hbad:¬ (nT h.Keys∧h.Txns.length≤32)→Tri (ak h) (fun v'=>(1:Int)=v'∧((1:Int)=0∨(1:Int)=1)):=fun hno=>⟨1,hfail hno,rfl,.inr rfl⟩;unfold aO nI
 simp only [cond_true,cond_false]
 repeat' (first | contradiction | with_reducible refine ay (fun hq => ?_) (fun hq => ?_) | with_reducible refine aj (by first | omega | grind [bG]) ?_ | with_reducible refine aF ?_ | with_reducible refine bJ ?_ | with_reducible refine bS ?_ | with_reducible refine bT ?_ | with_reducible refine bU ?_ | with_reducible refine ah ?_)
 ·exact hbad (fun hh=>by have:=hh.1.1; omega)
 ·exact hbad (fun hh=>by have:=hh.2; omega)
 ·refine kD h.Keys.length (wF h.Keys) ?_;intro k hk hJ;unfold qd lG
  simp only [cond_true,cond_false]
  have hf:k < h.Keys.length→Tri (slices_Contains_string (di h.Keys 0 (k:Int)) (idx h.Keys (k:Int))) (fun r=>r=true↔∃ j:Nat,j < k∧idx h.Keys (j:Int)=idx h.Keys (k:Int)):=by
   intro hk'
   rw [oJ (by omega)]
   refine dQ (zU (by simp; omega)) (fun r hr => ?_);have ht:(h.Keys.take k).length=k:=by simp; omega
   have hx:∀ j:Nat,j < k→idx (h.Keys.take k) (j:Int)=idx h.Keys (j:Int):=fun j h=>qy h
   rw [ht] at hr
   grind
  have he:=Ah (k:=idx h.Keys (k:Int));have hw:w64 ((k:Int) + 1)=((k + 1:Nat):Int):=bn (by omega)
  rw [hw]
  have hNk:wF h.Keys k↔(1≤(idx h.Keys (k:Int)).size∧(idx h.Keys (k:Int)).size≤32∧∀ j:Nat,j < k→idx h.Keys (j:Int)≠idx h.Keys (k:Int)):=Iff.rfl;have hno:k < h.Keys.length → ¬ wF h.Keys k → ¬ (nT h.Keys∧h.Txns.length≤32):=fun h1 h2 h3=>h2 (h3.1.2 k h1);refine ay (fun a1 => ?_) (fun a1 => ?_)
  ·refine aj (by omega) ?_
   repeat' (first | contradiction | with_reducible refine ay (fun hq => ?_) (fun hq => ?_) | with_reducible refine aj (by first | omega | grind [bG]) ?_ | with_reducible refine aF ?_ | with_reducible refine bJ ?_ | with_reducible refine bS ?_ | with_reducible refine bT ?_ | with_reducible refine bU ?_ | with_reducible refine ah ?_ | refine fQ (hf (by omega)) (fun r hr => ?_))
   ·exact hbad (hno (by omega) (by grind))
   ·exact hbad (hno (by omega) (by grind))
   ·exact hbad (hno (by omega) (by grind))
   ·exact ⟨rfl,by omega,by grind⟩
  ·have hN:nT h.Keys:=⟨by omega,fun i hi=>hJ i (by omega)⟩
   unfold mX;refine bJ ?_;obtain ⟨x,hx,v,hv,hq⟩:=hgood hN (by omega);obtain ⟨rfl,h2⟩:=hq;exact ⟨_,hx,v,hv,rfl,h2⟩
end Go.Proofs.YtnlkggppokcmfaaGreatT
namespace Go.Proofs.YtnlkggppokcmfaaGreatT
open Go Go.Proofs Go.Proofs.YtnlkggppokcmfaaGreatE
set_option linter.unusedVariables false
set_option linter.unusedSimpArgs false
def nU (l:List Int) (c:Call) (w:Int) (s:ByteArray):List Int:=if c.Kind=4∧c.Key=s∧(l.length=0∨idx l ((l.length - 1:Nat):Int)≠w) then l++[w] else l
def kC (E:List (Call×Int)) (s:ByteArray):List Int:=E.foldl (fun l e=>nU l e.1 e.2 s) []
theorem yh {E:List (Call×Int)} {c:Call} {w:Int} {s:ByteArray}:kC (E++[(c,w)]) s=nU (kC E s) c w s:=by
 unfold kC; rw [List.foldl_append]; rfl
theorem qm {l:List Int} {c:Call} {w:Int} {s:ByteArray} (h:¬ (c.Kind=4∧c.Key=s)):nU l c w s=l:=by
 unfold nU; rw [if_neg (fun hh=>h ⟨hh.1,hh.2.1⟩)]
def Fa (E:List (Call×Int)) (c:Call) (w:Int):Prop :=
 ((c.Kind=2∨c.Kind=3)→∀ e ∈ E,e.1.Key=c.Key→(e.1.Kind=2∨e.1.Kind=3)→e.1.Arg≠c.Arg)∧(c.Kind=4→(nU (kC E c.Key) c w c.Key).length≤8)
def Dy (E:List (Call×Int)) (c:Call) (w:Int):Prop:=(∀ e ∈ E,e.1.Key=c.Key→typ e.1.Kind=typ c.Kind)∧Fa E c w
structure BookInv0 (E:List (Call×Int)) (b:aD):Prop where
 tl:b.types.length=b.keys.length
 wl:b.wrote.length=b.keys.length
 il:b.incs.length=b.keys.length
 ll:b.last_.length=b.keys.length
 nd:∀ i j:Nat,i < b.keys.length→j < b.keys.length→idx b.keys (i:Int)=idx b.keys (j:Int)→i=j
 ks:∀ e ∈ E,∃ j:Nat,j < b.keys.length∧idx b.keys (j:Int)=e.1.Key
 ty:∀ e ∈ E,∀ j:Nat,j < b.keys.length→idx b.keys (j:Int)=e.1.Key→idx b.types (j:Int)=typ e.1.Kind
 wr:∀ j:Nat,j < b.keys.length→∀ a,(∃ m:Nat,m < (idx b.wrote (j:Int)).length∧idx (idx b.wrote (j:Int)) (m:Int)=a)↔∃ e ∈ E,e.1.Key=idx b.keys (j:Int)∧(e.1.Kind=2∨e.1.Kind=3)∧e.1.Arg=a
 wn:∀ j:Nat,j < b.keys.length→(idx b.wrote (j:Int)).length≤E.length
 ic:∀ j:Nat,j < b.keys.length→idx b.incs (j:Int)=((kC E (idx b.keys (j:Int))).length:Int)
 i8:∀ j:Nat,j < b.keys.length→(kC E (idx b.keys (j:Int))).length≤8
 io:∀ s,(∀ j:Nat,j < b.keys.length→idx b.keys (j:Int)≠s)→kC E s=[]
 la:∀ j:Nat,j < b.keys.length→((kC E (idx b.keys (j:Int))).length=0→idx b.last_ (j:Int) = -1) ∧
  (0 < (kC E (idx b.keys (j:Int))).length→idx b.last_ (j:Int)=idx (kC E (idx b.keys (j:Int))) (((kC E (idx b.keys (j:Int))).length - 1:Nat):Int))
theorem BookInv0.start:BookInv0 [] ⟨[],[],[],[],[]⟩:=by
 refine ⟨rfl,rfl,rfl,rfl,?_,?_,?_,?_,?_,?_,?_,?_,?_⟩
 all_goals simp [kC]
theorem BookInv0.new {E:List (Call×Int)} {b:aD} (h:BookInv0 E b) {s:ByteArray} {t:Int} (hn:∀ j:Nat,j < b.keys.length→idx b.keys (j:Int)≠s) :
  BookInv0 E ⟨b.keys++[s],b.types++[t],b.wrote++[[]],b.incs++[0],b.last_++[-1]⟩:=by
 have hl:(b.keys++[s]).length=b.keys.length + 1:=by simp
 have k1:∀ j:Nat,j < b.keys.length→idx (b.keys++[s]) (j:Int)=idx b.keys (j:Int):=fun j hj=>iL hj;have k2:idx (b.keys++[s]) ((b.keys.length:Nat):Int)=s:=jg rfl;have t1:∀ j:Nat,j < b.keys.length→idx (b.types++[t]) (j:Int)=idx b.types (j:Int):=fun j hj=>iL (by rw [h.tl]; exact hj);have w1:∀ j:Nat,j < b.keys.length→idx (b.wrote++[[]]) (j:Int)=idx b.wrote (j:Int):=fun j hj=>iL (by rw [h.wl]; exact hj);have w2:idx (b.wrote++[[]]) ((b.keys.length:Nat):Int)=[]:=jg h.wl.symm;have i1:∀ j:Nat,j < b.keys.length→idx (b.incs++[0]) (j:Int)=idx b.incs (j:Int):=fun j hj=>iL (by rw [h.il]; exact hj);have i2:idx (b.incs++[0]) ((b.keys.length:Nat):Int)=0:=jg h.il.symm;have l1:∀ j:Nat,j < b.keys.length→idx (b.last_++[-1]) (j:Int)=idx b.last_ (j:Int):=fun j hj=>iL (by rw [h.ll]; exact hj);have l2:idx (b.last_++[-1]) ((b.keys.length:Nat):Int) = -1:=jg h.ll.symm;have ho:=h.io s hn;have hne:∀ e ∈ E,e.1.Key≠s:=fun e he hs=>by
  obtain ⟨j,hj,hk⟩:=h.ks e he;exact hn j hj (hk.trans hs)
 have cut:∀ j:Nat,j < b.keys.length + 1→j < b.keys.length∨j=b.keys.length:=by omega
 refine ⟨by simp [h.tl],by simp [h.wl],by simp [h.il],by simp [h.ll],?_,?_,?_,?_,?_,?_,?_,?_,?_⟩
 ·intro i j hi hj he
  dsimp only at hi hj he
  rw [hl] at hi hj
  have:=h.nd i j;rcases cut i hi with hi' | hi' <;> rcases cut j hj with hj' | hj' <;> grind
 ·intro e he;obtain ⟨j,hj,hk⟩:=h.ks e he;exact ⟨j,by simp; omega,(k1 j hj).trans hk⟩
 ·intro e he j hj hk
  dsimp only at hj hk ⊢
  rw [hl] at hj
  rcases cut j hj with hj' | hj'
  ·rw [k1 j hj'] at hk; rw [t1 j hj']; exact h.ty e he j hj' hk
  ·subst hj'; rw [k2] at hk; exact absurd hk.symm (hne e he)
 ·intro j hj a
  dsimp only at hj ⊢
  rw [hl] at hj
  rcases cut j hj with hj' | hj'
  ·rw [k1 j hj',w1 j hj']; exact h.wr j hj' a
  ·subst hj'
   rw [k2,w2]
   constructor
   ·rintro ⟨m,hm,_⟩; simp at hm
   ·rintro ⟨e,he,hk,_⟩; exact absurd hk (hne e he)
 ·intro j hj
  dsimp only at hj ⊢
  rw [hl] at hj
  rcases cut j hj with hj' | hj'
  ·rw [w1 j hj']; exact h.wn j hj'
  ·subst hj'; rw [w2]; simp
 ·intro j hj
  dsimp only at hj ⊢
  rw [hl] at hj
  rcases cut j hj with hj' | hj'
  ·rw [k1 j hj',i1 j hj']; exact h.ic j hj'
  ·subst hj'; rw [k2,i2,ho]; rfl
 ·intro j hj
  dsimp only at hj ⊢
  rw [hl] at hj
  rcases cut j hj with hj' | hj'
  ·rw [k1 j hj']; exact h.i8 j hj'
  ·subst hj'; rw [k2,ho]; simp
 ·intro x hx
  dsimp only at hx ⊢
  rw [hl] at hx
  exact h.io x (fun j hj=>by rw [← k1 j hj]; exact hx j (by omega))
 ·intro j hj
  dsimp only at hj ⊢
  rw [hl] at hj
  rcases cut j hj with hj' | hj'
  ·rw [k1 j hj',l1 j hj']; exact h.la j hj'
  ·subst hj'; rw [k2,l2,ho]; simp
theorem gJ {E:List (Call×Int)} {c:Call} {w:Int} {e:Call×Int}:e ∈ E++[(c,w)]↔e ∈ E∨e=(c,w):=by simp
theorem BookInv0.same {E:List (Call×Int)} {b:aD} {c:Call} {w:Int} {k:Nat} (h:BookInv0 E b) (hk:k < b.keys.length) (hs:idx b.keys (k:Int)=c.Key) (ht:idx b.types (k:Int)=typ c.Kind)
  (h2:c.Kind≠2) (h3:c.Kind≠3) (hw:nU (kC E c.Key) c w c.Key=kC E c.Key):BookInv0 (E++[(c,w)]) b:=by
 have hws:∀ s,kC (E++[(c,w)]) s=kC E s:=fun s=>by
  rw [yh]
  by_cases e:c.Kind=4∧c.Key=s
  ·rw [← e.2]; exact hw
  ·exact qm e
 refine ⟨h.tl,h.wl,h.il,h.ll,h.nd,?_,?_,?_,?_,?_,?_,?_,?_⟩
 ·intro e he;rcases gJ.1 he with he | rfl
  ·exact h.ks e he
  ·exact ⟨k,hk,hs⟩
 ·intro e he j hj hkj;rcases gJ.1 he with he | rfl
  ·exact h.ty e he j hj hkj
  ·have:=h.nd j k hj hk (hkj.trans hs.symm);subst this;exact ht
 ·intro j hj a
  rw [h.wr j hj a]
  constructor
  ·rintro ⟨e,he,r⟩; exact ⟨e,gJ.2 (.inl he),r⟩
  ·rintro ⟨e,he,r⟩;rcases gJ.1 he with he | rfl
   ·exact ⟨e,he,r⟩
   ·rcases r.2.1 with r | r <;> contradiction
 ·intro j hj;have:=h.wn j hj
  simp; omega
 ·intro j hj; rw [hws]; exact h.ic j hj
 ·intro j hj; rw [hws]; exact h.i8 j hj
 ·intro s hs'; rw [hws]; exact h.io s hs'
 ·intro j hj; rw [hws]; exact h.la j hj
theorem BookInv0.write {E:List (Call×Int)} {b:aD} {c:Call} {w:Int} {k:Nat} (h:BookInv0 E b) (hk:k < b.keys.length) (hs:idx b.keys (k:Int)=c.Key) (ht:idx b.types (k:Int)=typ c.Kind)
  (a0:c.Kind=2∨c.Kind=3):BookInv0 (E++[(c,w)]) ⟨b.keys,b.types,b.wrote.set k (idx b.wrote (k:Int)++[c.Arg]),b.incs,b.last_⟩:=by
 have hws:∀ s,kC (E++[(c,w)]) s=kC E s:=fun s=>by
  rw [yh]
  exact qm (fun e=>by omega)
 have w1:∀ j:Nat,idx (b.wrote.set k (idx b.wrote (k:Int)++[c.Arg])) (j:Int)=if j=k then idx b.wrote (k:Int)++[c.Arg] else idx b.wrote (j:Int):=fun j=>mU (by rw [h.wl]; exact hk);refine ⟨h.tl,by simp [h.wl],h.il,h.ll,h.nd,?_,?_,?_,?_,?_,?_,?_,?_⟩
 ·intro e he;rcases gJ.1 he with he | rfl
  ·exact h.ks e he
  ·exact ⟨k,hk,hs⟩
 ·intro e he j hj hkj;rcases gJ.1 he with he | rfl
  ·exact h.ty e he j hj hkj
  ·have:=h.nd j k hj hk (hkj.trans hs.symm);subst this;exact ht
 ·intro j hj a
  dsimp only at hj ⊢
  rw [w1 j]
  have hold:=h.wr j hj a
  by_cases e:j=k
  ·subst e
   rw [if_pos rfl]
   constructor
   ·rintro ⟨m,hm,he⟩;rcases Nat.lt_or_ge m (idx b.wrote (j:Int)).length with h1 | h1
    ·rw [iL h1] at he
     obtain ⟨e,he',r⟩:=hold.1 ⟨m,h1,he⟩;exact ⟨e,gJ.2 (.inl he'),r⟩
    ·simp at hm
     rw [jg (by omega)] at he
     exact ⟨(c,w),gJ.2 (.inr rfl),hs.symm,a0,he⟩
   ·rintro ⟨e,he,r⟩;rcases gJ.1 he with he | rfl
    ·obtain ⟨m,hm,hh⟩:=hold.2 ⟨e,he,r⟩;exact ⟨m,by simp; omega,(iL hm).trans hh⟩
    ·exact ⟨_,by simp,(jg rfl).trans r.2.2⟩
  ·rw [if_neg e,hold]
   constructor
   ·rintro ⟨e,he,r⟩; exact ⟨e,gJ.2 (.inl he),r⟩
   ·rintro ⟨e',he,r⟩;rcases gJ.1 he with he | rfl
    ·exact ⟨e',he,r⟩
    ·exact absurd (h.nd j k hj hk (r.1.symm.trans hs.symm)) e
 ·intro j hj
  dsimp only at hj ⊢
  rw [w1 j]
  have:=h.wn j hj
  split
  ·rename_i e; subst e; simp; omega
  ·simp; omega
 ·intro j hj; rw [hws]; exact h.ic j hj
 ·intro j hj; rw [hws]; exact h.i8 j hj
 ·intro s hs'; rw [hws]; exact h.io s hs'
 ·intro j hj; rw [hws]; exact h.la j hj
theorem BookInv0.inc {E:List (Call×Int)} {b:aD} {c:Call} {w:Int} {k:Nat} (h:BookInv0 E b) (hk:k < b.keys.length) (hs:idx b.keys (k:Int)=c.Key) (ht:idx b.types (k:Int)=typ c.Kind)
  (h4:c.Kind=4) (hw:nU (kC E c.Key) c w c.Key=kC E c.Key++[w]) (h8:(kC E c.Key).length + 1≤8) :
  BookInv0 (E++[(c,w)]) ⟨b.keys,b.types,b.wrote,b.incs.set k (idx b.incs (k:Int) + 1),b.last_.set k w⟩:=by
 have hws:∀ s,kC (E++[(c,w)]) s=if c.Key=s then kC E s++[w] else kC E s:=fun s=>by
  rw [yh]
  by_cases e:c.Key=s
  ·rw [if_pos e,← e]; exact hw
  ·rw [if_neg e]; exact qm (fun hh=>e hh.2)
 have i1:∀ j:Nat,idx (b.incs.set k (idx b.incs (k:Int) + 1)) (j:Int)=if j=k then idx b.incs (k:Int) + 1 else idx b.incs (j:Int):=fun j=>mU (by rw [h.il]; exact hk);have l1:∀ j:Nat,idx (b.last_.set k w) (j:Int)=if j=k then w else idx b.last_ (j:Int):=fun j=>mU (by rw [h.ll]; exact hk);have hne:∀ j:Nat,j < b.keys.length→(c.Key=idx b.keys (j:Int)↔j=k):=fun j hj=>⟨fun e=>h.nd j k hj hk (e.symm.trans hs.symm),fun e=>by rw [e,hs]⟩
 refine ⟨h.tl,h.wl,by simp [h.il],by simp [h.ll],h.nd,?_,?_,?_,?_,?_,?_,?_,?_⟩
 ·intro e he;rcases gJ.1 he with he | rfl
  ·exact h.ks e he
  ·exact ⟨k,hk,hs⟩
 ·intro e he j hj hkj;rcases gJ.1 he with he | rfl
  ·exact h.ty e he j hj hkj
  ·have:=h.nd j k hj hk (hkj.trans hs.symm);subst this;exact ht
 ·intro j hj a
  dsimp only at hj ⊢
  rw [h.wr j hj a]
  constructor
  ·rintro ⟨e,he,r⟩; exact ⟨e,gJ.2 (.inl he),r⟩
  ·rintro ⟨e,he,r⟩;rcases gJ.1 he with he | rfl
   ·exact ⟨e,he,r⟩
   ·have:=r.2.1; dsimp only at this; omega
 ·intro j hj;have:=h.wn j hj
  simp; omega
 ·intro j hj
  dsimp only at hj ⊢
  have:=h.ic j hj
  rw [hws,i1 j]
  by_cases e:j=k
  ·rw [if_pos e,if_pos ((hne j hj).2 e)]; subst e; simp; omega
  ·rw [if_neg e,if_neg (fun hh=>e ((hne j hj).1 hh))]; exact this
 ·intro j hj
  dsimp only at hj ⊢
  rw [hws]
  by_cases e:j=k
  ·rw [if_pos ((hne j hj).2 e)]; subst e; rw [hs]; simp; omega
  ·rw [if_neg (fun hh=>e ((hne j hj).1 hh))]; exact h.i8 j hj
 ·intro s hs'
  dsimp only at hs'
  rw [hws,if_neg (fun e=>hs' k hk (hs.trans e))]
  exact h.io s hs'
 ·intro j hj
  dsimp only at hj ⊢
  rw [hws,l1 j]
  by_cases e:j=k
  ·rw [if_pos e,if_pos ((hne j hj).2 e)]
   refine ⟨fun h0=>by simp at h0,fun _ => ?_⟩
   rw [jg (by simp)]
  ·rw [if_neg e,if_neg (fun hh=>e ((hne j hj).1 hh))]; exact h.la j hj
theorem Dz {E:List (Call×Int)} {b:aD} {c:Call} {w:Int} {k:Nat} (h:BookInv0 E b) (hk:k < b.keys.length) (hs:idx b.keys (k:Int)=c.Key) (ht:idx b.types (k:Int)=typ c.Kind)
  (h1:1≤c.Kind) (h8:c.Kind≤8) (hw:0≤w) (hE:E.length≤4096) :
  Tri (dC c w b.keys b.types b.wrote b.incs b.last_ (k:Int)) (fun r=>(r.1=0↔Fa E c w)∧(r.1=0→BookInv0 (E++[(c,w)]) r.2∧r.2.keys=b.keys∧r.2.types=b.types)):=by
 have hin:=h.ic k hk;have a0:=h.i8 k hk;have hla:=h.la k hk;have hwr:=h.wr k hk c.Arg;have hwn:=h.wn k hk
 rw [hs] at hin a0 hla hwr
 refine dQ (AR (who:=w) hk h.tl h.wl h.il h.ll (by omega) (by omega) h1 h8) (fun r hr => ?_);have stay:∀ {l:List Int},nU (kC E c.Key) c w c.Key=l→l=if c.Kind=4∧((kC E c.Key).length=0∨idx (kC E c.Key) (((kC E c.Key).length - 1:Nat):Int)≠w) then kC E c.Key++[w] else kC E c.Key:=by
  rintro l rfl;unfold nU
  simp
 have st:=stay rfl;rcases hr with ⟨a,rfl⟩ | ⟨_,b1,b2,rfl⟩ | ⟨_,b1,b2,rfl⟩ | ⟨_,b1,b2,b3,b4⟩ | ⟨_,b1,b2,b3,rfl⟩ | ⟨_,b1,b2,rfl⟩ | ⟨_,b1,b2,b3,rfl⟩
 ·exact absurd ht a
 ·refine ⟨⟨fun h=>by simp at h,fun hh => ?_⟩,fun h=>by simp at h⟩
  obtain ⟨e,he,r1,r2,r3⟩:=hwr.1 b2;exact absurd r3 (hh.1 b1 e he r1 r2)
 ·refine ⟨⟨fun _=>⟨fun _ e he r1 r2 r3=>b2 (hwr.2 ⟨e,he,r1,r2,r3⟩),fun h4=>by omega⟩,fun _=>rfl⟩,fun _=>⟨h.write hk hs ht b1,rfl,rfl⟩⟩
 ·have hne:(kC E c.Key).length=0∨idx (kC E c.Key) (((kC E c.Key).length - 1:Nat):Int)≠w:=by grind
  rw [if_pos ⟨b1,hne⟩] at st
  refine ⟨⟨fun h0=>by omega,fun hh => ?_⟩,fun h0=>by omega⟩
  have:=hh.2 b1
  rw [st] at this
  simp at this
  omega
 ·have hne:(kC E c.Key).length=0∨idx (kC E c.Key) (((kC E c.Key).length - 1:Nat):Int)≠w:=by grind
  rw [if_pos ⟨b1,hne⟩] at st
  refine ⟨⟨fun _=>⟨fun h=>by omega,fun _=>by rw [st]; simp; omega⟩,fun _=>rfl⟩,fun _=>⟨h.inc hk hs ht b1 st (by omega),rfl,rfl⟩⟩
 ·have hne:¬ ((kC E c.Key).length=0∨idx (kC E c.Key) (((kC E c.Key).length - 1:Nat):Int)≠w):=by grind
  rw [if_neg (fun hh=>hne hh.2)] at st
  refine ⟨⟨fun _=>⟨fun h=>by omega,fun _=>by rw [st]; exact a0⟩,fun _=>rfl⟩,fun _=>⟨h.same hk hs ht (by omega) (by omega) st,rfl,rfl⟩⟩
 ·rw [if_neg (fun hh=>b3 hh.1)] at st
  refine ⟨⟨fun _=>⟨fun h=>by omega,fun h=>by omega⟩,fun _=>rfl⟩,fun _=>⟨h.same hk hs ht b1 b2 st,rfl,rfl⟩⟩
structure nV (E:List (Call×Int)) (b:aD):Prop extends BookInv0 E b where
 len:b.keys.length≤32
 kex:∀ j:Nat,j < b.keys.length→∃ e ∈ E,e.1.Key=idx b.keys (j:Int)
theorem nV.start:nV [] ⟨[],[],[],[],[]⟩:=⟨BookInv0.start,by simp,fun j hj=>by simp at hj⟩
theorem Ei {E:List (Call×Int)} {b:aD} {c:Call} {w:Int} (h:nV E b) (hroom:b.keys.length=32→∃ j:Nat,j < b.keys.length∧idx b.keys (j:Int)=c.Key)
  (h1:1≤c.Kind) (h8:c.Kind≤8) (hw:0≤w) (hE:E.length≤4096) :
  Tri (ag b c w) (fun r=>(r.1=0↔Dy E c w)∧(r.1=0→nV (E++[(c,w)]) r.2)):=by
 have hl:=h.len;have t1:=h.tl;have t2:=h.wl;have t3:=h.il;have t4:=h.ll;obtain ⟨r0,a4,hf⟩:=yf (l:=b.keys) (s:=c.Key) (by omega);unfold ag
 rw [a4]
 refine bJ ?_;rcases hf with ⟨rfl,hno⟩ | ⟨k,rfl,a0,a1,_⟩
 ·refine ay (fun _ => ?_) (fun hh=>by omega);refine ay (fun a5 => ?_) (fun a5 => ?_)
  ·obtain ⟨j,hj,he⟩:=hroom (by omega);exact absurd he (hno j hj)
  ·have hn:=h.toBookInv0.new (s:=c.Key) (t:=typ c.Kind) hno;have hat:=Dz (w:=w) hn (k:=b.keys.length) (by simp) (jg rfl) (jg t1.symm) h1 h8 hw hE;have hne:∀ e ∈ E,e.1.Key≠c.Key:=fun e he hs=>by
    obtain ⟨j,hj,hk⟩:=h.ks e he;exact hno j hj (hk.trans hs)
   unfold gu gq
   simp only [xm h1 h8]
   refine aj (by omega) (bJ (aj (by omega) (aj (by omega) (aj (by omega) (aj (by omega) ?_)))));refine dQ hat (fun r hr => ?_);refine ⟨hr.1.trans ⟨fun hh=>⟨fun e he hs=>absurd hs (hne e he),hh⟩,fun hh=>hh.2⟩,fun h0 => ?_⟩;obtain ⟨q1,q2,q3⟩:=hr.2 h0;refine ⟨q1,by rw [q2]; simp; omega,fun j hj => ?_⟩
   rw [q2] at hj ⊢
   have hj:j < b.keys.length + 1:=by simpa using hj
   rcases (by omega:j < b.keys.length∨j=b.keys.length) with hj' | hj'
   ·obtain ⟨e,he,hk⟩:=h.kex j hj';exact ⟨e,gJ.2 (.inl he),by rw [hk]; exact (iL hj').symm⟩
   ·subst hj';exact ⟨(c,w),gJ.2 (.inr rfl),(jg rfl).symm⟩
 ·refine ay (fun hh=>by omega) (fun _ => ?_);obtain ⟨e0,a3,a2⟩:=h.kex k a0;have hty:=h.ty e0 a3 k a0 a2.symm
  by_cases ht:idx b.types (k:Int)=typ c.Kind
  ·have hat:=Dz (w:=w) h.toBookInv0 a0 a1 ht h1 h8 hw hE;refine dQ hat (fun r hr => ?_);refine ⟨hr.1.trans ⟨fun hh=>⟨fun e he hs => ?_,hh⟩,fun hh=>hh.2⟩,fun h0 => ?_⟩
   ·exact (h.ty e he k a0 (a1.trans hs.symm)).symm.trans ht
   ·obtain ⟨q1,q2,q3⟩:=hr.2 h0;refine ⟨q1,by rw [q2]; exact hl,fun j hj => ?_⟩
    rw [q2] at hj ⊢
    obtain ⟨e,he,hk⟩:=h.kex j hj;exact ⟨e,gJ.2 (.inl he),hk⟩
  ·have hin:=h.ic k a0;have a6:=h.i8 k a0;have hwn:=h.wn k a0;refine dQ (AR (who:=w) a0 t1 t2 t3 t4 (by omega) (by omega) h1 h8) (fun r hr => ?_);have hno:¬ Dy E c w:=fun hh=>ht (hty.trans (hh.1 e0 a3 (a2.trans a1)));rcases hr with ⟨a,rfl⟩ | ⟨a,_⟩ | ⟨a,_⟩ | ⟨a,_⟩ | ⟨a,_⟩ | ⟨a,_⟩ | ⟨a,_⟩
   ·exact ⟨⟨fun h=>by simp at h,fun hh=>absurd hh hno⟩,fun h=>by simp at h⟩
   all_goals exact absurd a ht
def zm (h:History) (i:Nat):List (Call×Int):=(cB h (idx h.Txns (i:Int))).map (fun c=>(c,(i:Int)))
def pU (h:History) (k:Nat):List (Call×Int):=(List.range k).flatMap (zm h)
theorem qo {h:History} {k:Nat}:pU h (k + 1)=pU h k++zm h k:=by
 unfold pU; rw [List.range_succ,List.flatMap_append]; simp
def nW (E L:List (Call×Int)):Prop:=∀ j:Nat,j < L.length→Dy (E++L.take j) (idx L (j:Int)).1 (idx L (j:Int)).2
theorem nW.append {E L M:List (Call×Int)}:nW E (L++M)↔nW E L∧nW (E++L) M:=by
 constructor
 ·intro h;refine ⟨fun j hj => ?_,fun j hj => ?_⟩
  ·have:=h j (by simp; omega)
   rwa [iL hj,List.take_append_of_le_length (by omega)] at this
  ·have:=h (L.length + j) (by simp; omega)
   rw [List.take_append,List.take_of_length_le (by omega),show L.length + j - L.length=j by omega,← List.append_assoc] at this
   rwa [show idx (L++M) ((L.length + j:Nat):Int)=idx M (j:Int) from by
    rw [dH rfl (by simp; omega),dH rfl hj,List.getElem_append_right (by omega)]; congr 1; omega] at this
 ·rintro ⟨h1,h2⟩ j hj;rcases Nat.lt_or_ge j L.length with h3 | h3
  ·rw [iL h3,List.take_append_of_le_length (by omega)]; exact h1 j h3
  ·obtain ⟨i,rfl⟩:∃ i,j=L.length + i:=⟨j - L.length,by omega⟩
   have hi:i < M.length:=by simp at hj; omega
   have:=h2 i hi
   rw [List.take_append,List.take_of_length_le (by omega),show L.length + i - L.length=i by omega,← List.append_assoc]
   rwa [show idx (L++M) ((L.length + i:Nat):Int)=idx M (i:Int) from by
    rw [dH rfl (by simp; omega),dH rfl hi,List.getElem_append_right (by omega)]; congr 1; omega]
theorem room {K l:List ByteArray} {s:ByteArray} (hK:K.length≤32) (hl:l.length=32) (nd:∀ i j:Nat,i < l.length→j < l.length→idx l (i:Int)=idx l (j:Int)→i=j)
  (hs:s ∈ K) (hsub:∀ x ∈ l,x ∈ K):∃ j:Nat,j < l.length∧idx l (j:Int)=s:=by
 have hnd:l.Nodup:=by
  rw [List.nodup_iff_pairwise_ne,List.pairwise_iff_getElem]
  intro i j hi hj hij he;have:=nd i j hi hj (by rw [dH rfl hi,dH rfl hj]; exact he)
  omega
 by_cases h:s ∈ l
 ·obtain ⟨j,hj,he⟩:=List.getElem_of_mem h;exact ⟨j,hj,(dH rfl hj).trans he⟩
 ·have h1:(s::l).Nodup:=List.nodup_cons.2 ⟨h,hnd⟩;have h2:=h1.length_le_of_subset (l₂:=K) (fun x hx=>by
   rcases List.mem_cons.1 hx with rfl | hx
   ·exact hs
   ·exact hsub x hx)
  simp at h2
  omega
def InK (K:List ByteArray) (E:List (Call×Int)):Prop:=∀ e ∈ E,e.1.Key ∈ K
theorem nV.sub {K:List ByteArray} {E:List (Call×Int)} {b:aD} (h:nV E b) (hE:InK K E):∀ x ∈ b.keys,x ∈ K:=by
 intro x hx;obtain ⟨j,hj,rfl⟩:=List.getElem_of_mem hx;obtain ⟨e,he,hk⟩:=h.kex j hj;have:=hE e he
 rw [hk,dH rfl hj] at this
 exact this
theorem CO {K:List ByteArray} {E:List (Call×Int)} {b:aD} {i:Nat} {l:List Call} (h:nV E b) (hK:K.length≤32) (hEK:InK K E) (hlK:∀ c ∈ l,c.Key ∈ K) (hl:l.length≤16) (hi:i < 64) (hn:E.length≤1024)
  (hc:qI l (fun c=>1≤c.Kind∧c.Kind≤8)) :
  Tri (iter (eu (i:Int) l) (xn b 0)) (fun x=>(nW E (l.map (fun c=>(c,(i:Int))))→∃ b',x = .inr (.inl (xn b' ((i + 1:Nat):Int)))∧nV (E++l.map (fun c=>(c,(i:Int)))) b') ∧
   (¬ nW E (l.map (fun c=>(c,(i:Int))))→x = .inr (.inr 1))):=by
 generalize hm:l.map (fun c=>(c,(i:Int)))=m;have hml:m.length=l.length:=by rw [← hm]; simp
 have hmi:∀ k:Nat,k < l.length→idx m (k:Int)=(idx l (k:Int),(i:Int)):=fun k hk=>by rw [← hm,vv hk]
 refine dI (k0:=0) l.length (fun k s=>∃ b',s=xn b' (k:Int)∧nV (E++m.take k) b'∧∀ j:Nat,j < k→Dy (E++m.take j) (idx m (j:Int)).1 (idx m (j:Int)).2) (Nat.zero_le _) ⟨b,rfl,by simpa using h,fun j hj=>absurd hj (Nat.not_lt_zero _)⟩ ?_
 rintro k s hk ⟨b',rfl,hb,hJ⟩;unfold eu xn
 dsimp only
 refine ay (fun a2 => ?_) (fun a2 => ?_)
 ·have a0:k < l.length:=by omega
  have hin:InK K (E++m.take k):=fun e he=>by
   rcases List.mem_append.1 he with he | he
   ·exact hEK e he
   ·have:=List.mem_of_mem_take he
    rw [← hm] at this
    obtain ⟨c,hc,rfl⟩:=List.mem_map.1 this;exact hlK c hc
  have hcK:(idx l (k:Int)).Key ∈ K:=hlK _ (by rw [dH rfl a0]; exact List.getElem_mem a0);have hw:w64 ((k:Int) + 1)=((k + 1:Nat):Int):=bn (by omega);obtain ⟨r,hr,q1,q2⟩:=Ei (c:=idx l (k:Int)) (w:=(i:Int)) hb (fun a1=>room hK a1 hb.nd hcK (hb.sub hin)) (hc k a0).1 (hc k a0).2 (by omega) (by simp; omega);refine aj (by omega) (dA hr ?_);refine ay (fun h0 => ?_) (fun h0 => ?_)
  ·refine aF (aF (aF (ah ⟨fun hall => ?_,fun _=>rfl⟩)));have:=hall k (by omega)
   rw [hmi k a0] at this
   exact absurd (q1.2 this) h0
  ·refine ah ⟨a0,r.2,?_,?_,?_⟩
   ·rw [hw]
   ·rw [iO (by omega),hmi k a0,← List.append_assoc]
    exact q2 (by omega)
   ·intro j hj;rcases Nat.lt_or_ge j k with h1 | h1
    ·exact hJ j h1
    ·rw [show j=k by omega,hmi k a0]; exact q1.1 (by omega)
 ·have hw:w64 ((i:Int) + 1)=((i + 1:Nat):Int):=bn (by omega)
  rw [hw]
  have hfull:m.take k=m:=List.take_of_length_le (by omega)
  rw [hfull] at hb
  refine aF (aF (ah ⟨fun _=>⟨b',rfl,hb⟩,fun hno=>absurd (fun j hj=>hJ j (by omega)) hno⟩))
structure mf (h:History):Prop where
 names:nT h.Keys
 len:h.Txns.length≤32
 txn:∀ i:Nat,i < h.Txns.length→xq h i
 ents:nW [] (pU h h.Txns.length)
theorem keys_in {h:History} {i:Nat} (hi:tC h (idx h.Txns (i:Int))):∀ c ∈ cB h (idx h.Txns (i:Int)),c.Key ∈ h.Keys:=by
 intro c hc;obtain ⟨o,ho,rfl⟩:=List.mem_map.1 hc;have:=(uR.1 hi) o ho
 show idx h.Keys o.Key ∈ h.Keys
 rw [dH (n:=o.Key.toNat) (by omega) (by omega)]
 exact List.getElem_mem _
theorem Ej {h:History} {i:Nat} (hi:xq h i):(zm h i).length≤16:=by
 have:=hi.2.2.2.2.1
 simpa [zm,vQ,cB] using this
theorem yK {h:History} (hs:pJ h):Tri (ak h) (fun v=>(v=0↔mf h)∧(v=0∨v=1)):=by
 obtain ⟨a4,a5,a3⟩:=hs;obtain ⟨y,hy,hn⟩:=zl (l:=h.Keys) (by omega);unfold ak fH
 simp only [cond_true,cond_false]
 repeat' (first | contradiction | with_reducible refine ay (fun hq => ?_) (fun hq => ?_) | with_reducible refine aj (by first | omega | grind [bG]) ?_ | with_reducible refine aF ?_ | with_reducible refine bJ ?_ | with_reducible refine bS ?_ | with_reducible refine bT ?_ | with_reducible refine bU ?_ | with_reducible refine ah ?_ | refine dA hy ?_)
 ·exact ⟨⟨fun h=>absurd h (by decide),fun hS=>absurd (hn.2 hS.names) ‹¬y=true›⟩,.inr rfl⟩
 ·exact ⟨⟨fun h=>absurd h (by decide),fun hS=>absurd hS.len (by omega)⟩,.inr rfl⟩
 ·have hN:nT h.Keys:=hn.1 (Decidable.of_not_not ‹¬¬y=true›);have a2:h.Txns.length≤32:=by omega
  refine dI (k0:=0) h.Txns.length (fun k s=>∃ b,s=xn b (k:Int)∧nV (pU h k) b∧InK h.Keys (pU h k)∧(pU h k).length≤16 * k∧nW [] (pU h k)∧∀ j:Nat,j < k→xq h j) (Nat.zero_le _)
   ⟨⟨[],[],[],[],[]⟩,rfl,nV.start,fun e he=>by simp [pU] at he,by simp [pU],fun j hj=>by simp [pU] at hj,fun j hj=>absurd hj (Nat.not_lt_zero _)⟩ ?_
  rintro k s hk ⟨b,rfl,hb,hin,hlen,hents,hJ⟩;unfold ib gZ xn
  simp only [cond_true,cond_false]
  have hbad:(k < h.Txns.length → ¬ xq h k)→k < h.Txns.length → ¬ mf h:=fun h1 h2 hS=>h1 h2 (hS.txn k h2);refine ay (fun a1 => ?_) (fun a1 => ?_)
  ·have a0:k < h.Txns.length:=by omega
   obtain ⟨p',hp',hp1'⟩:=tZ (l:=h.Txns) a0 (by omega);have hco:wE (vQ h (idx h.Txns (k:Int)))→(idx h.Txns (k:Int)).Ops.length≤16:=fun he=>by
    have:=he.2.2.1
    simpa [vQ,cB] using this
   repeat' (first | contradiction | with_reducible refine ay (fun hq => ?_) (fun hq => ?_) | with_reducible refine aj (by first | omega | grind [bG]) ?_ | with_reducible refine aF ?_ | with_reducible refine bJ ?_ | with_reducible refine bS ?_ | with_reducible refine bT ?_ | with_reducible refine bU ?_ | with_reducible refine ah ?_ | refine dA hp' ?_)
   ·exact ⟨⟨fun h=>absurd h (by decide),fun hS=>absurd (hp1'.2 (hS.txn k a0).1) ‹¬p'=true›⟩,.inr rfl⟩
   ·exact ⟨⟨fun h=>absurd h (by decide),fun hS=>absurd (hco (hS.txn k a0).2.2) (by omega)⟩,.inr rfl⟩
   ·refine AU (b:=b) a0 (a3 k a0) (by omega) (fun hno => ?_) (fun hKo hEv => ?_)
    ·exact ⟨⟨fun h=>absurd h (by decide),fun hS=>absurd ⟨(hS.txn k a0).2.1,(hS.txn k a0).2.2⟩ hno⟩,.inr rfl⟩
    ·have hok:xq h k:=⟨hp1'.1 (Decidable.of_not_not ‹¬¬p'=true›),hKo,hEv⟩;have hc:qI (cB h (idx h.Txns (k:Int))) (fun c=>1≤c.Kind∧c.Kind≤8):=fun j hj=>⟨(hEv.2.2.2 j hj).1,(hEv.2.2.2 j hj).2.1⟩;refine dQ (CO (i:=k) hb hN.1 hin (keys_in hKo) hEv.2.2.1 (by omega) (by omega) hc) (fun x hx => ?_)
     by_cases hall:nW (pU h k) (zm h k)
     ·obtain ⟨b',rfl,hb'⟩:=hx.1 hall;refine ⟨a0,b',rfl,by rw [qo]; exact hb',?_,?_,?_,?_⟩
      ·rw [qo]
       intro e he;rcases List.mem_append.1 he with he | he
       ·exact hin e he
       ·obtain ⟨c,hc,rfl⟩:=List.mem_map.1 he;exact keys_in hKo c hc
      ·have:=Ej hok
       rw [qo,List.length_append]; omega
      ·rw [qo]
       exact nW.append.2 ⟨hents,hall⟩
      ·intro j hj;rcases Nat.lt_or_ge j k with h1 | h1
       ·exact hJ j h1
       ·rw [show j=k by omega]; exact hok
     ·rw [hx.2 hall]
      refine ⟨⟨fun h=>absurd h (by decide),fun hS=>absurd ?_ hall⟩,.inr rfl⟩;have hsp:∀ n:Nat,k + 1≤n→nW [] (pU h n)→nW (pU h k) (zm h k):=by
       intro n
       induction n with
       | zero=>intro h; omega
       | succ n ih =>
        intro hn hE
        rw [qo,nW.append] at hE
        rcases Nat.lt_or_ge k n with h1 | h1
        ·exact ih (by omega) hE.1
        ·rw [show n=k by omega] at hE
         exact hE.2
      exact hsp _ a0 hS.ents
  ·have a0:k=h.Txns.length:=by omega
   repeat' (first | contradiction | with_reducible refine ay (fun hq => ?_) (fun hq => ?_) | with_reducible refine aj (by first | omega | grind [bG]) ?_ | with_reducible refine aF ?_ | with_reducible refine bJ ?_ | with_reducible refine bS ?_ | with_reducible refine bT ?_ | with_reducible refine bU ?_ | with_reducible refine ah ?_)
   rw [a0] at hents hJ
   exact ⟨⟨fun _=>⟨hN,a2,hJ,hents⟩,fun _=>rfl⟩,.inl rfl⟩
theorem CP {h:History} (hs:pJ h):∃ v,aO h=some v∧ak h=some v∧(v=0∨v=1)∧(v=0↔mf h):=by
 obtain ⟨v,hv,v',hv',rfl,a0⟩:=yg hs;obtain ⟨w,hw,h1,h2⟩:=yK hs;have:v=w:=Option.some.inj (hv'.symm.trans hw);subst this;exact ⟨v,hv,hv',a0,h1⟩
end Go.Proofs.YtnlkggppokcmfaaGreatT
namespace Go.Proofs.YtnlkggppokcmfaaGreatT
open Go Go.Proofs Go.Proofs.YtnlkggppokcmfaaGreatE
set_option linter.unusedVariables false
set_option linter.unusedSimpArgs false
def pX (ops:List Op) (key:Int) (p:Nat):List Int:=((ops.take p).filter (fun o=>decide (o.Key=key∧o.Kind≤4))).map (·.Arg)
theorem El {ops:List Op} {key:Int}:pX ops key 0=[]:=rfl
theorem sF {ops:List Op} {key:Int} {p:Nat} (h:p < ops.length):pX ops key (p + 1)=if (idx ops (p:Int)).Key=key∧(idx ops (p:Int)).Kind≤4 then pX ops key p++[(idx ops (p:Int)).Arg] else pX ops key p:=by
 unfold pX
 rw [iO h,List.filter_append,List.map_append]
 by_cases e:(idx ops (p:Int)).Key=key∧(idx ops (p:Int)).Kind≤4
 ·simp [e]
 ·rw [if_neg e]
  simp only [List.filter_cons,List.filter_nil,decide_eq_true_eq,if_neg e]
  simp
theorem qp {ops:List Op} {key:Int} {p:Nat}:(pX ops key p).length≤ops.length:=by
 unfold pX
 rw [List.length_map]
 exact Nat.le_trans (List.length_filter_le _ _) (by simp; omega)
def xu (ops:List Op) (t:Int) (p:Nat):List Ask :=
 let o:=idx ops (p:Int)
 let mine:=pX ops o.Key p
 if o.Kind≤4 then [] else if mine=[] then [⟨t,p,o.Key,o.Vals⟩] else if (before (o.Kind - 4) o.Vals mine).2=true∧o.Kind≠5 then [⟨t,p,o.Key,(before (o.Kind - 4) o.Vals mine).1⟩] else []
def yj (ops:List Op) (t:Int) (p:Nat):List fe :=
 let o:=idx ops (p:Int)
 let mine:=pX ops o.Key p
 if o.Kind≤4 then [] else if mine=[] then [] else if (before (o.Kind - 4) o.Vals mine).2=true then [] else [⟨t,p⟩]
def pM (ops:List Op) (t:Int) (k:Nat):List Ask:=(List.range k).flatMap (xu ops t)
def pY (ops:List Op) (t:Int) (k:Nat):List fe:=(List.range k).flatMap (yj ops t)
theorem uN {ops:List Op} {t:Int} {k:Nat}:pM ops t (k + 1)=pM ops t k++xu ops t k:=by
 unfold pM; rw [List.range_succ,List.flatMap_append]; simp
theorem tF {ops:List Op} {t:Int} {k:Nat}:pY ops t (k + 1)=pY ops t k++yj ops t k:=by
 unfold pY; rw [List.range_succ,List.flatMap_append]; simp
theorem wG {ops:List Op} {t:Int} {k:Nat}:(pM ops t k).length≤k:=by
 induction k with
 | zero=>simp [pM]
 | succ k ih =>
  rw [uN,List.length_append]
  have:(xu ops t k).length≤1:=by
   unfold xu
   dsimp only
   split
   ·simp
   ·split
    ·simp
    ·split <;> simp
  omega
theorem uO {ops:List Op} {t:Int} {k:Nat}:(pY ops t k).length≤k:=by
 induction k with
 | zero=>simp [pY]
 | succ k ih =>
  rw [tF,List.length_append]
  have:(yj ops t k).length≤1:=by
   unfold yj
   dsimp only
   split
   ·simp
   ·split
    ·simp
    ·split <;> simp
  omega
def pO (h:History) (t:Int):List Ask:=if (idx h.Txns t).Status=1 then pM (idx h.Txns t).Ops t (idx h.Txns t).Ops.length else []
def qV (h:History) (t:Int):List fe:=if (idx h.Txns t).Status=1 then pY (idx h.Txns t).Ops t (idx h.Txns t).Ops.length else []
def DC (ops:List Op):Prop:=ops.length≤16∧qI ops (fun o=>1≤o.Kind∧o.Kind≤8∧o.Vals.length≤64)
theorem xq.ops {h:History} {i:Nat} (hi:xq h i):DC (idx h.Txns (i:Int)).Ops:=by
 obtain ⟨_,_,_,_,h1,h2⟩:=hi;refine ⟨by simpa [vQ,cB] using h1,fun j hj => ?_⟩
 have:=h2 j (by simpa [vQ,cB] using hj)
 dsimp only [vQ,cB] at this
 rw [vv hj] at this
 unfold pI uK at this
 dsimp only at this
 grind
theorem Em {h:History} {t:Nat} {f:dM} (ht:t < h.Txns.length) (ho:DC (idx h.Txns (t:Int)).Ops) (ha:f.asks.length≤1000000) (hb:f.bad.length≤1000000) :
  Tri (aS f h (t:Int)) (fun r=>r=⟨f.asks++pO h (t:Int),f.bad++qV h (t:Int)⟩):=by
 unfold aS pO qV;refine aj (by omega) ?_;refine ay (fun h1 => ?_) (fun h1 => ?_)
 ·rw [if_neg h1,if_neg h1]
  exact ah (by simp)
 ·have h1:(idx h.Txns (t:Int)).Status=1:=Decidable.of_not_not h1
  rw [if_pos h1,if_pos h1]
  generalize hx:(idx h.Txns (t:Int)).Ops=ops at ho ⊢;obtain ⟨a3,hall⟩:=ho;refine dI (k0:=0) ops.length (fun k s=>s.1=f.asks++pM ops (t:Int) k∧s.2.1=f.bad++pY ops (t:Int) k∧(∀ key,mat s.2.2.1 key=pX ops key k)∧s.2.2.2=(k:Int)) (Nat.zero_le _)
   ⟨by simp [pM],by simp [pY],fun key=>rfl,rfl⟩ ?_
  rintro k ⟨l1,l2,m,x⟩ hk ⟨e1,e2,hm,e4⟩
  dsimp only at e1 e2 hm e4
  subst e1 e2 e4;unfold mF jO jN fT
  simp only [cond_true,cond_false,hx,hm]
  have hw:w64 ((k:Int) + 1)=((k + 1:Nat):Int):=bn (by omega);have l1:=wG (ops:=ops) (t:=(t:Int)) (k:=k);have l2:=uO (ops:=ops) (t:=(t:Int)) (k:=k);have l3:=qp (ops:=ops) (key:=(idx ops (k:Int)).Key) (p:=k);have hn:∀ key,k < ops.length→pX ops key (k + 1)=_:=fun key hk=>sF hk
  rw [hw]
  refine ay (fun a1 => ?_) (fun a1 => ?_)
  ·have a0:k < ops.length:=by omega
   obtain ⟨o1,o2,o3⟩:=hall k a0;have a2:w64 ((idx ops (k:Int)).Kind - 4)=(idx ops (k:Int)).Kind - 4:=bG (by omega) (by omega);have hbf:=xh ((idx ops (k:Int)).Kind - 4) (s:=(idx ops (k:Int)).Vals) (args:=pX ops (idx ops (k:Int)).Key k) (by omega) (by omega);have hcl:ed (idx ops (k:Int)).Vals=some (idx ops (k:Int)).Vals:=jZ _ (by omega)
   rw [a2,hbf,hcl]
   simp only [List.length_append]
   have hA:=uN (ops:=ops) (t:=(t:Int)) (k:=k);have hB:=tF (ops:=ops) (t:=(t:Int)) (k:=k);have hnil:∀ l:List Int,l=[]↔l.length=0:=fun l=>List.length_eq_zero_iff.symm;unfold xu at hA;unfold yj at hB
   dsimp only at hA hB
   repeat' (first | contradiction | with_reducible refine ay (fun hq => ?_) (fun hq => ?_) | with_reducible refine aj (by first | omega | grind [bG]) ?_ | with_reducible refine aF ?_ | with_reducible refine bJ ?_ | with_reducible refine bS ?_ | with_reducible refine bT ?_ | with_reducible refine bU ?_ | with_reducible refine ah ?_)
   all_goals (refine ⟨a0,?_,?_,fun key => ?_,rfl⟩ <;> dsimp only)
   all_goals grind [oV]
  ·have:k=ops.length:=by omega
   subst this
   repeat' (first | contradiction | with_reducible refine ay (fun hq => ?_) (fun hq => ?_) | with_reducible refine aj (by first | omega | grind [bG]) ?_ | with_reducible refine aF ?_ | with_reducible refine bJ ?_ | with_reducible refine bS ?_ | with_reducible refine bT ?_ | with_reducible refine bU ?_ | with_reducible refine ah ?_)
   rfl
theorem Fb {k:Int} (h1:5≤k) (h8:k≤8):typ k=k - 4:=by unfold typ; omega
theorem BB {h:History} {t:Nat} (ht:t < h.Txns.length) (ho:DC (idx h.Txns (t:Int)).Ops) :
  aN h (t:Int)=some (pO h (t:Int),qV h (t:Int)):=by
 refine fD.1 ?_;unfold aN pO qV;refine aj (by omega) ?_;refine ay (fun h1 => ?_) (fun h1 => ?_)
 ·rw [if_neg h1,if_neg h1]
  exact ah rfl
 ·have h1:(idx h.Txns (t:Int)).Status=1:=Decidable.of_not_not h1
  rw [if_pos h1,if_pos h1]
  generalize hx:(idx h.Txns (t:Int)).Ops=ops at ho ⊢;obtain ⟨a3,hall⟩:=ho;refine dI (k0:=0) ops.length (fun k s=>s=(pM ops (t:Int) k,pY ops (t:Int) k,(k:Int))) (Nat.zero_le _) rfl ?_;rintro k s hk rfl;have l1:=wG (ops:=ops) (t:=(t:Int)) (k:=k);have l2:=uO (ops:=ops) (t:=(t:Int)) (k:=k);have l3:=qp (ops:=ops) (key:=(idx ops (k:Int)).Key) (p:=k);have hw:w64 ((k:Int) + 1)=((k + 1:Nat):Int):=bn (by omega);unfold nO eD
  simp only [hx]
  refine ay (fun a2 => ?_) (fun a2 => ?_)
  ·have a0:k < ops.length:=by omega
   obtain ⟨o1,o2,o3⟩:=hall k a0;have hA:=uN (ops:=ops) (t:=(t:Int)) (k:=k);have hB:=tF (ops:=ops) (t:=(t:Int)) (k:=k);unfold xu at hA;unfold yj at hB
   dsimp only at hA hB
   refine aj (by omega) (bJ (ay (fun a1 => ?_) (fun a1 => ?_)))
   ·unfold fM
    rw [hw]
    refine ah ⟨a0,?_⟩
    grind
   ·refine dI (k0:=0) k (fun j s=>s=(pX ops (idx ops (k:Int)).Key j,(j:Int))) (Nat.zero_le _) rfl ?_;rintro j s hj rfl;have l4:=qp (ops:=ops) (key:=(idx ops (k:Int)).Key) (p:=j);have hwj:w64 ((j:Int) + 1)=((j + 1:Nat):Int):=bn (by omega);have hn:j < ops.length→pX ops (idx ops (k:Int)).Key (j + 1)=_:=fun hk=>sF hk;have hbf:=yG ((idx ops (k:Int)).Kind - 4) (s:=(idx ops (k:Int)).Vals) (args:=pX ops (idx ops (k:Int)).Key j) (by omega) (by omega);have hty:fB (idx ops (k:Int)).Kind=some ((idx ops (k:Int)).Kind - 4):=by rw [xm o1 o2,Fb (by omega) o2]
    unfold nN lm lq lh fM eD
    simp only [cond_true,cond_false,hx,hw,hwj,hty,hbf,List.nil_append]
    have hnil:∀ l:List Int,l=[]↔l.length=0:=fun l=>List.length_eq_zero_iff.symm
    repeat' (first | contradiction | with_reducible refine ay (fun hq => ?_) (fun hq => ?_) | with_reducible refine aj (by first | omega | grind [bG]) ?_ | with_reducible refine aF ?_ | with_reducible refine bJ ?_ | with_reducible refine bS ?_ | with_reducible refine bT ?_ | with_reducible refine bU ?_ | with_reducible refine ah ?_ | refine dA hbf ?_)
    all_goals grind [Upm]
  ·have:k=ops.length:=by omega
   subst this
   repeat' (first | contradiction | with_reducible refine ay (fun hq => ?_) (fun hq => ?_) | with_reducible refine aj (by first | omega | grind [bG]) ?_ | with_reducible refine aF ?_ | with_reducible refine bJ ?_ | with_reducible refine bS ?_ | with_reducible refine bT ?_ | with_reducible refine bU ?_ | with_reducible refine ah ?_)
   rfl
end Go.Proofs.YtnlkggppokcmfaaGreatT
namespace Go.Proofs.YtnlkggppokcmfaaGreatT
open Go Go.Proofs Go.Proofs.YtnlkggppokcmfaaGreatE
set_option linter.unusedVariables false
set_option linter.unusedSimpArgs false
theorem zV {a b:List Int} (ha:a.length < 2 ^ 62):bE a b=some (decide (a=b)):=by
 refine Ht.1 ?_;unfold bE;refine ay (fun h => ?_) (fun h => ?_)
 ·refine ah ?_;have:a≠b:=by rintro rfl; exact h rfl
  simp [this]
 ·have hl:a.length=b.length:=by grind
  refine kD a.length (fun j=>idx a (j:Int)=idx b (j:Int)) ?_;intro k hk hJ;have hw:w64 ((k:Int) + 1)=((k + 1:Nat):Int):=bn (by omega);have hx:(∀ j:Nat,j < a.length→idx a (j:Int)=idx b (j:Int))→a=b:=fun h=>BV hl h;unfold iw
  dsimp only
  rw [hw]
  repeat' (first | contradiction | with_reducible refine ay (fun hq => ?_) (fun hq => ?_) | with_reducible refine aj (by first | omega | grind [bG]) ?_ | with_reducible refine aF ?_ | with_reducible refine bJ ?_ | with_reducible refine bS ?_ | with_reducible refine bT ?_ | with_reducible refine bU ?_ | with_reducible refine ah ?_)
  ·show false=true↔a=b
   grind
  ·exact ⟨rfl,by omega,by grind⟩
  ·show true=true↔a=b
   grind
theorem En {h:History} (hs:pJ h):df h=some h:=by
 obtain ⟨h1,h2,h3⟩:=hs;refine fD.1 ?_;unfold df;refine aj (by omega) ?_;refine dI (k0:=0) h.Txns.length (fun k s=>s=(h.Txns.take k,(k:Int))) (Nat.zero_le _) rfl ?_;rintro k s hk rfl;unfold mi
 dsimp only
 refine ay (fun a2 => ?_) (fun a2 => ?_)
 ·have a1:k < h.Txns.length:=by omega
  obtain ⟨t1,t2⟩:=h3 k a1;have hT:=iO a1;generalize hx:idx h.Txns (k:Int)=t at t1 t2 hT;have hl:(h.Txns.take k).length=k:=by simp; omega
  refine aj (by omega) ?_;refine dI (k0:=0) t.Ops.length (fun j s=>s=(t.Ops.take j,(j:Int))) (Nat.zero_le _) rfl ?_;rintro j s hj rfl;have hwj:w64 ((j:Int) + 1)=((j + 1:Nat):Int):=bn (by omega);have hwk:w64 ((k:Int) + 1)=((k + 1:Nat):Int):=bn (by omega);have a4:(t.Ops.take j).length=j:=by simp; omega
  unfold mh
  simp only [hx,hl,a4,hwj,hwk,List.nil_append]
  refine ay (fun a3 => ?_) (fun a3 => ?_)
  ·have a0:j < t.Ops.length:=by omega
   have t3:=t2 j a0;refine aj (by omega) (aj (by omega) (aj (by omega) (ah ⟨a0,?_⟩)))
   dsimp only
   rw [iO a0]
  ·refine aj (by omega) (aF (ah ⟨a1,?_⟩))
   dsimp only
   rw [hT,List.take_of_length_le (show t.Ops.length≤j by omega)]
 ·refine aF (ah ?_)
  rw [List.take_of_length_le (show h.Txns.length≤k by omega)]
  rfl
theorem Eo {h:History} (hs:pJ h):aA h h=some true:=by
 obtain ⟨h1,h2,h3⟩:=hs;refine fD.1 ?_;unfold aA jL
 simp only [cond_true,cond_false,bne_self_eq_false]
 refine kD h.Keys.length (fun _=>True) ?_;intro k hk hJ;have hw:w64 ((k:Int) + 1)=((k + 1:Nat):Int):=bn (by omega);unfold mE
 dsimp only
 refine ay (fun a1 => ?_) (fun a1 => ?_)
 ·repeat' (first | contradiction | with_reducible refine ay (fun hq => ?_) (fun hq => ?_) | with_reducible refine aj (by first | omega | grind [bG]) ?_ | with_reducible refine aF ?_ | with_reducible refine bJ ?_ | with_reducible refine bS ?_ | with_reducible refine bT ?_ | with_reducible refine bU ?_ | with_reducible refine ah ?_)
  exact ⟨hw,by omega,trivial⟩
 ·refine kD h.Txns.length (fun _=>True) ?_;intro i hi hJ;have hwi:w64 ((i:Int) + 1)=((i + 1:Nat):Int):=bn (by omega);unfold mD mr eX
  simp only [cond_true,cond_false,bne_self_eq_false]
  refine ay (fun a0 => ?_) (fun a0 => ?_)
  ·obtain ⟨t1,t2⟩:=h3 i (by omega);refine aj (by omega) (aj (by omega) ?_);refine kD (idx h.Txns (i:Int)).Ops.length (fun _=>True) ?_;intro j hj hJ;have hwj:w64 ((j:Int) + 1)=((j + 1:Nat):Int):=bn (by omega);unfold mq mo eU
   simp only [cond_true,cond_false,bne_self_eq_false]
   refine ay (fun a2 => ?_) (fun a2 => ?_)
   ·have t3:=t2 j (by omega);have hv:=zV (a:=(idx (idx h.Txns (i:Int)).Ops (j:Int)).Vals) (b:=(idx (idx h.Txns (i:Int)).Ops (j:Int)).Vals) (by omega)
    repeat' (first | contradiction | with_reducible refine ay (fun hq => ?_) (fun hq => ?_) | with_reducible refine aj (by first | omega | grind [bG]) ?_ | with_reducible refine aF ?_ | with_reducible refine bJ ?_ | with_reducible refine bS ?_ | with_reducible refine bT ?_ | with_reducible refine bU ?_ | with_reducible refine ah ?_ | refine dA hv ?_)
    all_goals grind [Nxt]
   ·repeat' (first | contradiction | with_reducible refine ay (fun hq => ?_) (fun hq => ?_) | with_reducible refine aj (by first | omega | grind [bG]) ?_ | with_reducible refine aF ?_ | with_reducible refine bJ ?_ | with_reducible refine bS ?_ | with_reducible refine bT ?_ | with_reducible refine bU ?_ | with_reducible refine ah ?_)
    exact ⟨hwi,by omega,trivial⟩
  ·repeat' (first | contradiction | with_reducible refine ay (fun hq => ?_) (fun hq => ?_) | with_reducible refine aj (by first | omega | grind [bG]) ?_ | with_reducible refine aF ?_ | with_reducible refine bJ ?_ | with_reducible refine bS ?_ | with_reducible refine bT ?_ | with_reducible refine bU ?_ | with_reducible refine ah ?_)
   rfl
end Go.Proofs.YtnlkggppokcmfaaGreatT
namespace Go.Proofs.YtnlkggppokcmfaaGreatT
open Go Go.Proofs Go.Proofs.YtnlkggppokcmfaaGreatE
set_option linter.unusedVariables false
set_option linter.unusedSimpArgs false
abbrev OG (y:Op):Prop:=((Lit.int .i64 (y).Kind).wf=true)∧((Lit.int .i64 (y).Key).wf=true)∧((Lit.int .i64 (y).Arg).wf=true)∧(True)∧((∀ z ∈ (y).Vals,(Lit.int .i64 z).wf=true)∧((y).Vals).length * 8≤140737488351232)
abbrev TG (y:Txn):Prop:=((Lit.int .i64 (y).Proc).wf=true)∧((Lit.int .i64 (y).Status).wf=true)∧((Lit.int .i64 (y).From).wf=true)∧((Lit.int .i64 (y).To).wf=true)∧((∀ z ∈ (y).Ops,OG z)∧((y).Ops).length * 56≤140737488351232)
abbrev HG (K:ByteArray→Prop) (x:History):Prop:=((∀ y ∈ (x).Keys,K y)∧((x).Keys).length * 16≤140737488351232)∧((∀ y ∈ (x).Txns,TG y)∧((x).Txns).length * 56≤140737488351232)
theorem HG.small {K:ByteArray→Prop} {h:History} (g:HG K h):pJ h :=
 ⟨g.1.2,g.2.2,uR.2 fun t ht=>⟨(g.2.1 t ht).2.2.2.2.2,uR.2 fun o ho=>((g.2.1 t ht).2.2.2.2.1 o ho).2.2.2.2.2⟩⟩
theorem xw {h:History} {t:Nat} (ho:DC (idx h.Txns (t:Int)).Ops):(pO h (t:Int)).length≤16∧(qV h (t:Int)).length≤16∧qI (pO h (t:Int)) (fun x=>x.Base.length < 2 ^ 62):=by
 have h1:=wG (ops:=(idx h.Txns (t:Int)).Ops) (t:=(t:Int)) (k:=(idx h.Txns (t:Int)).Ops.length);have h2:=uO (ops:=(idx h.Txns (t:Int)).Ops) (t:=(t:Int)) (k:=(idx h.Txns (t:Int)).Ops.length);have h3:=ho.1;refine ⟨?_,?_,?_⟩
 ·unfold pO; split
  ·omega
  ·simp
 ·unfold qV; split
  ·omega
  ·simp
 ·rw [uR]
  intro x hx;unfold pO at hx
  split at hx
  ·unfold pM at hx
   rw [List.mem_flatMap] at hx
   obtain ⟨p,hp,hx⟩:=hx;have hp:p < _:=List.mem_range.1 hp;have hv:=(ho.2 p hp).2.2;have hb:=AQ ((idx (idx h.Txns (t:Int)).Ops (p:Int)).Kind - 4) (idx (idx h.Txns (t:Int)).Ops (p:Int)).Vals (pX (idx h.Txns (t:Int)).Ops (idx (idx h.Txns (t:Int)).Ops (p:Int)).Key p);unfold xu at hx
   dsimp only at hx
   split at hx
   ·simp at hx
   ·split at hx
    ·simp at hx; subst hx; dsimp only; omega
    ·split at hx
     ·simp at hx; subst hx; dsimp only; omega
     ·simp at hx
  ·simp at hx
end Go.Proofs.YtnlkggppokcmfaaGreatT
namespace Go.Proofs.YtnlkggppokcmfaaGreatT
open Go Go.Proofs Go.Proofs.YtnlkggppokcmfaaGreatE
set_option linter.unusedVariables false
set_option linter.unusedSimpArgs false
def dJ (h:History) (k:Nat):List Ask:=(List.range k).flatMap (fun t=>pO h ((t:Nat):Int))
def gL (h:History) (k:Nat):List fe:=(List.range k).flatMap (fun t=>qV h ((t:Nat):Int))
theorem tH {h:History} {k:Nat}:dJ h (k + 1)=dJ h k++pO h (k:Int):=by
 unfold dJ; rw [List.range_succ,List.flatMap_append]; simp
theorem rP {h:History} {k:Nat}:gL h (k + 1)=gL h k++qV h (k:Int):=by
 unfold gL; rw [List.range_succ,List.flatMap_append]; simp
theorem vg {h:History} (hS:mf h):∀ k:Nat,k≤h.Txns.length→(dJ h k).length≤16 * k∧(gL h k).length≤16 * k∧qI (dJ h k) (fun x=>x.Base.length < 2 ^ 62):=by
 intro k
 induction k with
 | zero=>intro _; simp [dJ,gL,qI]
 | succ k ih =>
  intro hk;obtain ⟨i1,i2,i3⟩:=ih (by omega);obtain ⟨b1,b2,b3⟩:=xw (hS.txn k (by omega)).ops
  rw [tH,rP,List.length_append,List.length_append]
  refine ⟨by omega,by omega,?_⟩
  rw [uR] at i3 b3 ⊢
  intro x hx;rcases List.mem_append.1 hx with hx | hx
  ·exact i3 x hx
  ·exact b3 x hx
theorem BC {h:History} (hs:pJ h) (hS:mf h) (hc:aO h=some 0):jU h=some (⟨dJ h h.Txns.length,gL h h.Txns.length⟩,0):=by
 have a2:=hS.len;refine fD.1 ?_;unfold jU;refine dA hc ?_
 rw [bne_self_eq_false,cond_false]
 refine dI (k0:=0) h.Txns.length (fun k s=>s=(dJ h k,gL h k,(k:Int))) (Nat.zero_le _) rfl ?_;rintro k s hk rfl;have hw:w64 ((k:Int) + 1)=((k + 1:Nat):Int):=bn (by omega);obtain ⟨i1,i2,i3⟩:=vg hS k hk;unfold sN
 dsimp only
 refine ay (fun a1 => ?_) (fun a1 => ?_)
 ·have a0:k < h.Txns.length:=by omega
  refine fQ (Em a0 (hS.txn k a0).ops (by dsimp only; omega) (by dsimp only; omega)) (fun r hr => ?_);subst hr;refine ah ⟨a0,?_⟩
  dsimp only
  rw [hw,tH,rP]
 ·have:k=h.Txns.length:=by omega
  subst this;exact aF (ah rfl)
theorem BD {h:History} (hs:pJ h) (hS:mf h):eG h=some (dJ h h.Txns.length,gL h h.Txns.length):=by
 have a2:=hS.len;refine fD.1 ?_;unfold eG;refine dI (k0:=0) h.Txns.length (fun k s=>s=(dJ h k,gL h k,(k:Int))) (Nat.zero_le _) rfl ?_;rintro k s hk rfl;have hw:w64 ((k:Int) + 1)=((k + 1:Nat):Int):=bn (by omega);obtain ⟨i1,i2,i3⟩:=vg hS k hk;unfold ny
 dsimp only
 refine ay (fun a1 => ?_) (fun a1 => ?_)
 ·have a0:k < h.Txns.length:=by omega
  have ho:=(hS.txn k a0).ops;obtain ⟨b1,b2,b3⟩:=xw ho;refine dA (BB a0 ho) ?_
  dsimp only
  refine aj (by omega) (aj (by omega) (ah ⟨a0,?_⟩))
  dsimp only
  rw [hw,tH,rP]
 ·have:k=h.Txns.length:=by omega
  subst this;exact aF (ah rfl)
end Go.Proofs.YtnlkggppokcmfaaGreatT
namespace Go.Proofs.YtnlkggppokcmfaaGreatT
open Go Go.Proofs Go.Proofs.YtnlkggppokcmfaaGreatE
set_option linter.unusedVariables false
set_option linter.unusedSimpArgs false
def nX (h:History) (t:Int) (key:Int):List Int:=pX (idx h.Txns t).Ops key (idx h.Txns t).Ops.length
theorem BF {h:History} {t key:Int}:(nX h t key).length≤(idx h.Txns t).Ops.length:=qp
theorem CQ {x:Txn} {key:Int} (ho:x.Ops.length≤16):dB x key=some (pX x.Ops key x.Ops.length):=by
 refine fD.1 ?_;unfold dB;refine dI (k0:=0) x.Ops.length (fun k s=>s=(pX x.Ops key k,(k:Int))) (Nat.zero_le _) rfl ?_;rintro k s hk rfl;have hw:w64 ((k:Int) + 1)=((k + 1:Nat):Int):=bn (by omega);have l3:=qp (ops:=x.Ops) (key:=key) (p:=k);have hn:k < x.Ops.length→pX x.Ops key (k + 1)=_:=fun hk=>sF hk;unfold qf nK nJ
 dsimp only
 rw [hw]
 refine ay (fun a1 => ?_) (fun a1 => ?_)
 ·have a0:k < x.Ops.length:=by omega
  replace hn:=hn a0
  repeat' (first | contradiction | with_reducible refine ay (fun hq => ?_) (fun hq => ?_) | with_reducible refine aj (by first | omega | grind [bG]) ?_ | with_reducible refine aF ?_ | with_reducible refine bJ ?_ | with_reducible refine bS ?_ | with_reducible refine bT ?_ | with_reducible refine bU ?_ | with_reducible refine ah ?_)
  all_goals (refine ⟨a0,?_⟩; dsimp only; grind)
 ·have:k=x.Ops.length:=by omega
  subst this
  repeat' (first | contradiction | with_reducible refine ay (fun hq => ?_) (fun hq => ?_) | with_reducible refine aj (by first | omega | grind [bG]) ?_ | with_reducible refine aF ?_ | with_reducible refine bJ ?_ | with_reducible refine bS ?_ | with_reducible refine bT ?_ | with_reducible refine bU ?_ | with_reducible refine ah ?_)
  all_goals rfl
theorem zn {h:History} {t key:Int} (ht:0≤t∧t < (h.Txns.length:Int)) (ho:(idx h.Txns t).Ops.length≤16):aR h t key=some (nX h t key):=by
 refine fD.1 ?_;unfold aR nX;generalize hx:(idx h.Txns t).Ops=ops at ho ⊢;refine dI (k0:=0) ops.length (fun k s=>s=(pX ops key k,(k:Int))) (Nat.zero_le _) rfl ?_;rintro k s hk rfl;have hw:w64 ((k:Int) + 1)=((k + 1:Nat):Int):=bn (by omega);have l3:=qp (ops:=ops) (key:=key) (p:=k);have hn:k < ops.length→pX ops key (k + 1)=_:=fun hk=>sF hk;unfold lQ jC jB eD
 simp only [hx,hw,Option.bind_some]
 refine aj ht ?_;refine ay (fun a1 => ?_) (fun a1 => ?_)
 ·have a0:k < ops.length:=by omega
  replace hn:=hn a0
  repeat' (first | contradiction | with_reducible refine ay (fun hq => ?_) (fun hq => ?_) | with_reducible refine aj (by first | omega | grind [bG]) ?_ | with_reducible refine aF ?_ | with_reducible refine bJ ?_ | with_reducible refine bS ?_ | with_reducible refine bT ?_ | with_reducible refine bU ?_ | with_reducible refine ah ?_)
  all_goals (refine ⟨a0,?_⟩; dsimp only; grind)
 ·have:k=ops.length:=by omega
  subst this
  repeat' (first | contradiction | with_reducible refine ay (fun hq => ?_) (fun hq => ?_) | with_reducible refine aj (by first | omega | grind [bG]) ?_ | with_reducible refine aF ?_ | with_reducible refine bJ ?_ | with_reducible refine bS ?_ | with_reducible refine bT ?_ | with_reducible refine bU ?_ | with_reducible refine ah ?_)
  all_goals rfl
theorem CR {h:History} (hS:mf h) (hc:aO h=some 0) {t key:Int}:fZ h t key =
  some (if 0≤t∧t < (h.Txns.length:Int) then (nX h t key,decide (0 < (nX h t key).length)) else ([],false)):=by
 refine fD.1 ?_;unfold fZ lJ
 simp only [hc,Option.bind_some]
 by_cases ht:0≤t∧t < (h.Txns.length:Int)
 ·have h2:t=((t.toNat:Nat):Int):=by omega
  have ho:=(hS.txn t.toNat (by omega)).ops.1
  rw [← h2] at ho
  have hwt:=CQ (x:=idx h.Txns t) (key:=key) ho
  simp only [hwt,Option.bind_some]
  rw [if_pos ht]
  unfold nX
  repeat' (first | contradiction | with_reducible refine ay (fun hq => ?_) (fun hq => ?_) | with_reducible refine aj (by first | omega | grind [bG]) ?_ | with_reducible refine aF ?_ | with_reducible refine bJ ?_ | with_reducible refine bS ?_ | with_reducible refine bT ?_ | with_reducible refine bU ?_ | with_reducible refine ah ?_)
  all_goals (first | omega | simp)
 ·rw [if_neg ht]
  repeat' (first | contradiction | with_reducible refine ay (fun hq => ?_) (fun hq => ?_) | with_reducible refine aj (by first | omega | grind [bG]) ?_ | with_reducible refine aF ?_ | with_reducible refine bJ ?_ | with_reducible refine bS ?_ | with_reducible refine bT ?_ | with_reducible refine bU ?_ | with_reducible refine ah ?_)
  all_goals (first | omega | rfl | simp)
end Go.Proofs.YtnlkggppokcmfaaGreatT
namespace Go.Proofs.YtnlkggppokcmfaaGreatT
open Go Go.Proofs Go.Proofs.YtnlkggppokcmfaaGreatE
set_option linter.unusedVariables false
set_option linter.unusedSimpArgs false
def opAt (h:History) (t p:Int):Op:=idx (idx h.Txns t).Ops p
theorem DD {h:History} {n t p:Nat} (ht:t < n) (hp:p < (idx h.Txns (t:Int)).Ops.length):(uK h (opAt h (t:Int) (p:Int)),(t:Int)) ∈ pU h n:=by
 unfold pU zm cB opAt
 rw [List.mem_flatMap]
 refine ⟨t,List.mem_range.2 ht,?_⟩
 rw [List.map_map,List.mem_map]
 refine ⟨idx (idx h.Txns (t:Int)).Ops (p:Int),?_,rfl⟩
 rw [dH (n:=p) rfl hp]
 exact List.getElem_mem _
theorem Fe {L:List (Call×Int)} (h:nW [] L) {e f:Call×Int} (he:e ∈ L) (hf:f ∈ L) (hk:e.1.Key=f.1.Key):typ e.1.Kind=typ f.1.Kind:=by
 obtain ⟨i,hi,rfl⟩:=List.getElem_of_mem he;obtain ⟨j,hj,rfl⟩:=List.getElem_of_mem hf;rcases Nat.lt_trichotomy i j with hij | hij | hij
 ·have:=(h j hj).1 L[i] (by rw [List.nil_append]; exact List.mem_take_iff_getElem.2 ⟨i,by omega,rfl⟩) (by rw [dH (n:=j) rfl hj]; exact hk)
  rwa [dH (n:=j) rfl hj] at this
 ·subst hij; rfl
 ·have:=(h i hi).1 L[j] (by rw [List.nil_append]; exact List.mem_take_iff_getElem.2 ⟨j,by omega,rfl⟩) (by rw [dH (n:=i) rfl hi]; exact hk.symm)
  rw [dH (n:=i) rfl hi] at this
  exact this.symm
theorem Ff {h:History} (hS:mf h) {t p t' p':Nat} (ht:t < h.Txns.length) (hp:p < (idx h.Txns (t:Int)).Ops.length) (ht':t' < h.Txns.length) (hp':p' < (idx h.Txns (t':Int)).Ops.length)
  (hk:(opAt h (t:Int) (p:Int)).Key=(opAt h (t':Int) (p':Int)).Key):typ (opAt h (t:Int) (p:Int)).Kind=typ (opAt h (t':Int) (p':Int)).Kind :=
 Fe hS.ents (DD ht hp) (DD ht' hp') (by show idx h.Keys _=idx h.Keys _; rw [hk])
theorem AV {h:History} (hS:mf h) {t p:Nat} (ht:t < h.Txns.length) (hp:p < (idx h.Txns (t:Int)).Ops.length):1≤(opAt h (t:Int) (p:Int)).Kind∧(opAt h (t:Int) (p:Int)).Kind≤8:=by
 obtain ⟨h1,h2⟩:=(hS.txn t ht).ops;have:=h2 p hp;exact ⟨this.1,this.2.1⟩
theorem Ep {h:History} (hS:mf h) (hc:aO h=some 0) {key:Int} {t0 p0:Nat} (a3:t0 < h.Txns.length) (a5:p0 < (idx h.Txns (t0:Int)).Ops.length) (a2:(opAt h (t0:Int) (p0:Int)).Key=key) :
  dX h key=some (typ (opAt h (t0:Int) (p0:Int)).Kind):=by
 have a9:=hS.len;refine fD.1 ?_;unfold dX;refine dA hc ?_
 rw [bne_self_eq_false,cond_false]
 refine dI (k0:=0) h.Txns.length (fun k s=>s=(k:Int)∧∀ t p:Nat,t < k→p < (idx h.Txns (t:Int)).Ops.length→(opAt h (t:Int) (p:Int)).Key≠key) (Nat.zero_le _) ⟨rfl,fun t p h=>absurd h (Nat.not_lt_zero _)⟩ ?_;rintro k s hk ⟨rfl,hno⟩;have hw:w64 ((k:Int) + 1)=((k + 1:Nat):Int):=bn (by omega);unfold rA;refine ay (fun a6 => ?_) (fun a6 => ?_)
 ·have a0:k < h.Txns.length:=by omega
  refine aj (by omega) ?_;have b0:=(hS.txn k a0).ops.1;refine dI (k0:=0) (idx h.Txns (k:Int)).Ops.length (fun m s=>s=(m:Int)∧∀ p:Nat,p < m→(opAt h (k:Int) (p:Int)).Key≠key) (Nat.zero_le _) ⟨rfl,fun p h=>absurd h (Nat.not_lt_zero _)⟩ ?_;rintro m s hm ⟨rfl,a4⟩;have a8:w64 ((m:Int) + 1)=((m + 1:Nat):Int):=bn (by omega);unfold rz
  dsimp only
  rw [hw,a8]
  refine ay (fun a7 => ?_) (fun a7 => ?_)
  ·have a1:m < (idx h.Txns (k:Int)).Ops.length:=by omega
   refine aj (by omega) ?_;refine ay (fun he => ?_) (fun he => ?_)
   ·obtain ⟨k1,k2⟩:=AV hS a0 a1;refine dA (uM k1 k2) (aF (aF (ah ?_)));exact Ff hS a0 a1 a3 a5 ((show (opAt h (k:Int) (m:Int)).Key=key from he).trans a2.symm)
   ·refine ah ⟨a1,rfl,fun p hp => ?_⟩;rcases Nat.lt_or_ge p m with h1 | h1
    ·exact a4 p h1
    ·have:p=m:=by omega
     subst this;exact he
  ·have:m=(idx h.Txns (k:Int)).Ops.length:=by omega
   subst this;refine aF (ah ⟨a0,rfl,fun t p ht hp => ?_⟩);rcases Nat.lt_or_ge t k with h1 | h1
   ·exact hno t p h1 hp
   ·have:t=k:=by omega
    subst this;exact a4 p hp
 ·have:k=h.Txns.length:=by omega
  subst this;exact absurd a2 (hno t0 p0 a3 a5)
end Go.Proofs.YtnlkggppokcmfaaGreatT
namespace Go.Proofs.YtnlkggppokcmfaaGreatT
open Go Go.Proofs Go.Proofs.YtnlkggppokcmfaaGreatE
set_option linter.unusedVariables false
set_option linter.unusedSimpArgs false
def Jg (h:History) (key ty:Int):Prop:=∀ t p:Nat,t < h.Txns.length→p < (idx h.Txns (t:Int)).Ops.length→(opAt h (t:Int) (p:Int)).Key=key→typ (opAt h (t:Int) (p:Int)).Kind=ty
structure Iq (h:History) (a:Ask) (t p:Nat):Prop where
 tl:t < h.Txns.length
 pl:p < (idx h.Txns (t:Int)).Ops.length
 e1:a.Txn=(t:Int)
 e2:a.Place=(p:Int)
 e3:a.Key=(opAt h (t:Int) (p:Int)).Key
 rd:5≤(opAt h (t:Int) (p:Int)).Kind
 b64:a.Base.length≤64
 b4:typ (opAt h (t:Int) (p:Int)).Kind=4→a.Base.length=1
 b3:typ (opAt h (t:Int) (p:Int)).Kind=3→a.Base.Nodup
theorem Aj {s:List Int} (h:Asc s):s.Nodup:=by
 exact (ve.1 h).imp (fun h=>by omega)
theorem Fg {h:History} (hS:mf h) {a:Ask} (ha:a ∈ dJ h h.Txns.length):∃ t p,Iq h a t p:=by
 unfold dJ at ha;obtain ⟨t,ht,ha⟩:=List.mem_flatMap.1 ha;have ht:=List.mem_range.1 ht;unfold pO at ha
 split at ha
 case isFalse=>cases ha
 case isTrue hst =>
 unfold pM at ha;obtain ⟨p,hp,ha⟩:=List.mem_flatMap.1 ha;have hp:=List.mem_range.1 hp;refine ⟨t,p,?_⟩;obtain ⟨k1,k8⟩:=AV hS ht hp;obtain ⟨_,_,_,_,_,hcs⟩:=hS.txn t ht;have hc:=hcs p (by simpa [vQ,cB] using hp)
 dsimp only [vQ,cB] at hc
 rw [vv hp] at hc
 unfold pI uK at hc
 dsimp only at hc
 unfold xu at ha
 dsimp only at ha
 have ho:idx (idx h.Txns (t:Int)).Ops (p:Int)=opAt h (t:Int) (p:Int):=rfl
 rw [ho] at ha hc
 generalize opAt h (t:Int) (p:Int)=o at ha hc k1 k8 ho;obtain ⟨c1,c8,c3,c4,c5,c6⟩:=hc;have hoo:opAt h (t:Int) (p:Int)=o:=ho
 split at ha
 ·cases ha
 ·rename_i h4
  obtain ⟨d1,d2,d3,d4⟩:=c6 (by omega);have hg:o.Got=true:=d2.2 hst;obtain ⟨f1,f2,f3,f4⟩:=d4 hg
  split at ha
  ·rw [List.mem_singleton] at ha
   subst ha;exact ⟨ht,hp,rfl,rfl,by rw [hoo],by rw [hoo]; omega,f4,fun h=>f2 (by rw [hoo] at h; unfold typ at h; omega),fun h=>Aj (f3 (by rw [hoo] at h; unfold typ at h; omega))⟩
  ·split at ha
   ·rename_i hb
    rw [List.mem_singleton] at ha
    subst ha;obtain ⟨hb,h5⟩:=hb;refine ⟨ht,hp,rfl,rfl,by rw [hoo],by rw [hoo]; omega,?_,fun h => ?_,fun h => ?_⟩
    ·dsimp only
     unfold before;have:=List.length_filter_le (fun x=>decide (x ∉ pX (idx h.Txns (t:Int)).Ops o.Key p)) o.Vals
     split
     ·simp
     ·split
      ·simp
      ·split
       ·split
        ·simp; omega
        ·simp
       ·split
        ·split
         ·dsimp only; omega
         ·simp
        ·simp
    ·have h8:o.Kind=8:=by rw [hoo] at h; unfold typ at h; omega
     dsimp only
     unfold before at hb ⊢
     rw [h8] at hb ⊢
     split at hb
     ·cases hb
     ·rename_i hq
      rw [if_neg hq]
      simp
    ·have h7:o.Kind=7:=by rw [hoo] at h; unfold typ at h; omega
     have hnd:=Aj (f3 h7)
     dsimp only
     unfold before
     rw [h7]
     split
     ·simp
     ·simp only [show ¬ ((7:Int) - 4=1) by omega,show ¬ ((7:Int) - 4=2) by omega,if_false]
      split
      ·split
       ·exact hnd.filter _
       ·simp
      ·rename_i h0
       exact absurd (show (7:Int) - 4=3 by omega) h0
   ·cases ha
end Go.Proofs.YtnlkggppokcmfaaGreatT
namespace Go.Proofs.YtnlkggppokcmfaaGreatT
open Go Go.Proofs Go.Proofs.YtnlkggppokcmfaaGreatE
set_option linter.unusedVariables false
set_option linter.unusedSimpArgs false
structure Parts (O:List Int) (W:Int→List Int):Prop where
 ne:∀ t ∈ O,0 < (W t).length
 ap:∀ t ∈ O,∀ u ∈ O,∀ v,v ∈ W t→v ∈ W u→t=u
 nd:∀ t ∈ O,(W t).Nodup
 ol:O.length≤32
 wl:∀ t ∈ O,(W t).length≤16
 pos:∀ t ∈ O,0≤t
section
variable {O:List Int} {W:Int→List Int}
theorem qW {l:List Int} {j:Nat} (hj:j < l.length):idx l (j:Int) ∈ l:=by rw [dH (n:=j) rfl hj]; exact List.getElem_mem _
theorem GZ {l:List Int} {t:Int} (h:t ∈ l):∃ j:Nat,j < l.length∧idx l (j:Int)=t:=by
 obtain ⟨j,hj,e⟩:=List.getElem_of_mem h;exact ⟨j,hj,(dH rfl hj).trans e⟩
theorem BG {p s:List Int} (hp:p <+: s) (h0:0 < p.length):idx p 0=idx s 0:=by
 obtain ⟨r,rfl⟩:=hp;exact (iL (j:=0) h0).symm
theorem CS (hP:Parts O W) {rest:List Int} {t u:Int} (ht:t ∈ O) (hu:u ∈ O) (h1:idx (W t) 0=idx rest 0) (h2:idx (W u) 0=idx rest 0):t=u:=by
 have e1:=hP.ne t ht;have e2:=hP.ne u hu;refine hP.ap t ht u hu (idx rest 0) ?_ ?_
 ·rw [← h1]; exact qW (j:=0) e1
 ·rw [← h2]; exact qW (j:=0) e2
end
end Go.Proofs.YtnlkggppokcmfaaGreatT
namespace Go.Proofs.YtnlkggppokcmfaaGreatT
open Go Go.Proofs Go.Proofs.YtnlkggppokcmfaaGreatE
set_option linter.unusedVariables false
set_option linter.unusedSimpArgs false
def Stp (O:List Int) (W:Int→List Int) (rest l:List Int):Option (Option Int)→Prop
 | none=>rest.length=0
 | some none=>0 < rest.length∧∀ t ∈ O,W t <+: rest→t ∈ l
 | some (some t)=>0 < rest.length∧t ∈ O∧W t <+: rest∧t ∉ l
section
variable {O:List Int} {W:Int→List Int} {rest l:List Int}
theorem Stp.det (hP:Parts O W) {x y:Option (Option Int)} (hx:Stp O W rest l x) (hy:Stp O W rest l y):x=y:=by
 match x,y,hx,hy with
 | none,none,_,_=>rfl
 | none,some none,h1,h2=>exact absurd (show rest.length=0 from h1) (by have:0 < rest.length:=h2.1; omega)
 | none,some (some t),h1,h2=>exact absurd (show rest.length=0 from h1) (by have:0 < rest.length:=h2.1; omega)
 | some none,none,h1,h2=>exact absurd (show rest.length=0 from h2) (by have:0 < rest.length:=h1.1; omega)
 | some (some t),none,h1,h2=>exact absurd (show rest.length=0 from h2) (by have:0 < rest.length:=h1.1; omega)
 | some none,some none,_,_=>rfl
 | some none,some (some t),h1,h2=>exact absurd (h1.2 t h2.2.1 h2.2.2.1) h2.2.2.2
 | some (some t),some none,h1,h2=>exact absurd (h2.2 t h1.2.1 h1.2.2.1) h1.2.2.2
 | some (some t),some (some u),h1,h2 =>
  rw [CS hP h1.2.1 h2.2.1 (BG h1.2.2.1 (hP.ne t h1.2.1)) (BG h2.2.2.1 (hP.ne u h2.2.1))]
end
end Go.Proofs.YtnlkggppokcmfaaGreatT
namespace Go.Proofs.YtnlkggppokcmfaaGreatT
open Go Go.Proofs Go.Proofs.YtnlkggppokcmfaaGreatE
set_option linter.unusedVariables false
set_option linter.unusedSimpArgs false
section
variable {O:List Int} {W:Int→List Int} {rest l:List Int}
end
end Go.Proofs.YtnlkggppokcmfaaGreatT
